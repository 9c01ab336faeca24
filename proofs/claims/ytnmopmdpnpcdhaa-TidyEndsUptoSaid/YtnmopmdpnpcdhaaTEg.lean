/- Cut, CutBy: the program. -/
import Derived.Test.YtnmopmdpnpcdhaaTEf
import Derived.Test.YtnmopmdpnpcdhaaTEe

/- Which literal is dropped? The program. -/
namespace Go.Proofs.Ytnmopmdpnpcdhaa
open Go.RowKit Go
set_option linter.unusedVariables false
set_option linter.unusedSimpArgs false
def dropPair (l : List Li) (i k : Nat) : Bool := ((lget l k).neg == (lget l i).neg) && sides (lget l k) (lget l i)
def dropOne (l : List Li) (i : Nat) : Bool := (lget l i).neg && T.same (lget l i).l (lget l i).r
def dropAt (l : List Li) (i : Nat) : Bool := dropOne l i || (List.range i).any (dropPair l i)
/-- The first that is so. -/
def firstR (f : Nat → Bool) (n : Nat) : Option Nat := (List.range n).find? f
def dropI (l : List Li) : Option Nat := if clSmallB 1099511627776 l = true then firstR (dropAt l) l.length else none
theorem firstR_none {f : Nat → Bool} {n : Nat} (h : ∀ k, k < n → f k = false) : firstR f n = none := by
 unfold firstR; rw [List.find?_eq_none]; intro k hk; rw [h k (List.mem_range.1 hk)]; simp
theorem firstR_some {f : Nat → Bool} {n i : Nat} (hi : i < n) (h : ∀ k, k < i → f k = false) (ht : f i = true) : firstR f n = some i := by
 unfold firstR; rw [List.find?_range_eq_some]; exact ⟨ht, List.mem_range.2 hi, fun j hj => by rw [h j hj]; rfl⟩
theorem firstR_lt {f : Nat → Bool} {n i : Nat} (h : firstR f n = some i) : i < n := by
 unfold firstR at h; exact List.mem_range.1 (List.mem_of_find?_eq_some h)
theorem NewC.chg {S : Nat → Prop} {w0 w w' : World} {l : List Li} {a : Option Addr} {c : Nat} (h : NewC w0 w l a c) (hc : Chg S w w') (hS : ∀ b, w0.heap.size ≤ b → ¬ S b) : NewC w0 w' l a c := ⟨h.1.keep (fun p x hp hx => by
 have hb := World.block_lt_of_cell? _ _ hx
 unfold World.cell? at hx ⊢
 rw [hc.block p.block hb (hS _ hp)]; exact hx), h.2⟩
def dropR (l : List Li) (i : Nat) : Int := if dropOne l i = true then 6 else 7
/-- A step whose clause is new. -/
def StepV (w0 w : World) (r : Int) (l : List Li) (v : Value) : Prop := ∃ (p1 p2 p : Option Addr) (n1 c1 n2 c2 c : Nat), v = .agg #[.int .i64 r, .slice p1 n1 c1, .slice p2 n2 c2, .slice none 0 0, .slice none 0 0, .slice p l.length c] ∧ NewC w0 w l p c
/-- What a way to tidy answers: nothing, or a step to a clause. -/
def WayV (w0 w : World) (o : Option (Int × List Li)) (v : Value) : Prop := match o with
 | none => v = .tuple #[.agg #[.int .i64 0, .slice none 0 0, .slice none 0 0, .slice none 0 0, .slice none 0 0, .slice none 0 0], .bool false]
 | some l => ∃ u, v = .tuple #[u, .bool true] ∧ StepV w0 w l.1 l.2 u
set_option maxRecDepth 100000 in
theorem drop_any (l : List Li) (w : World) (a : Option Addr) (c : Nat) (h : IsCl w l a c) (hlen : l.length ≤ 1048576) : Calls Try.prog 11 #[.slice a l.length c] w (Ret fun v' w' => WayV w w' ((dropI l).map fun i => (dropR l i, l.eraseIdx i)) v' ∧ Below w.heap.size w w') := by
 have hcap := h.cap
 have hll := h.len
 refine Calls.walk (l := [.slice a l.length c]) Try.func11 rfl (by kernel_rfl) ?_
 refine WC.sub (K' := [(0, .slice a l.length c)]) ⟨rfl, trivial⟩ ?_
 refine WC.seq (WC.region ?_)
 refine WL.step (post := NewBlk w 40 #[.int .i64 0, .slice none 0 0, .slice none 0 0, .slice none 0 0, .slice none 0 0, .slice none 0 0]) rfl rfl rfl (fun za zC zh zk => alloc_40 rfl (zk _ _ (newBlk _ _ _))) ?_
 rintro _ w1 ⟨g2, rfl, hg3, hB4, hb5, hz6⟩
 have hl7 : w.heap.size ≤ g2 := by omega
 refine WL.asg rfl rfl rfl rfl rfl (WL.nil (WE.next (WC.seq (WC.seq (WC.region (WL.mv rfl rfl rfl rfl rfl ?_))))))
 refine WL.call rfl rfl rfl (fun za zh zC => wp_call (by kernel_rfl) rfl (hv1 (zh.ev rfl))) (fair_any l _ _ _ (h.rows.below hb5) hlen) ?_
 rintro _ w9 ⟨rfl, hq8⟩
 refine WL.val (.bool ((!(clSmallB 1099511627776 l)))) rfl rfl rfl (fun za zC zh zk => wp_not rfl (zh.ev rfl) zk) ?_
 refine WL.nil (WE.next ?_)
 refine WC.cond rfl (fun h10 => ?_) (fun h10 => ?_)
 ·have h10 : ¬ ((clSmallB 1099511627776 l) = true) := by simpa using h10
  refine WC.seq (WC.region ?_)
  refine WL.val (.agg #[.int .i64 0, .slice none 0 0, .slice none 0 0, .slice none 0 0, .slice none 0 0, .slice none 0 0]) rfl rfl rfl (fun za zC zh zk => build_40_ rfl  zk) ?_
  have hB11 := hB4.below hq8
  refine WL.step (post := fun _ w' => Upd g2 w9 w' ∧ Blk w' g2 40 #[.int .i64 0, .slice none 0 0, .slice none 0 0, .slice none 0 0, .slice none 0 0, .slice none 0 0]) rfl rfl rfl (fun za zC zh zk => st_40 rfl (zh.ev rfl) (zh.ev rfl) rfl rfl rfl rfl rfl rfl hB11 (by first | decide | simp) (fun v => zk v _ ⟨(((((Upd.at_ _ _ _ _).trans (Upd.at_ _ _ _ _)).trans (Upd.at_ _ _ _ _)).trans (Upd.at_ _ _ _ _)).trans (Upd.at_ _ _ _ _)).trans (Upd.at_ _ _ _ _), (((((hB11.set_ 0 _).set_ 1 _).set_ 2 _).set_ 3 _).set_ 4 _).set_ 5 _⟩)) ?_
  rintro v15 w12 ⟨hu13, hB14⟩
  have hb16 : Below w.heap.size w w9 := (bstep hb5 hq8)
  have hb17 := upd_below hb16 hu13 (by omega)
  refine WL.asg rfl rfl rfl rfl rfl (WL.nil (WE.next (WC.ret (WE.thenRet ?_))))
  refine WE.retAny (v := .tuple #[.agg #[.int .i64 0, .slice none 0 0, .slice none 0 0, .slice none 0 0, .slice none 0 0, .slice none 0 0], .bool false]) (fun za zh => ?_) ?_
  ·have z0 : za.tmps[2]?.getD undef = .pointer (some ⟨g2, 0, none⟩) := by rw [← Array.getD_eq_getD_getElem?]; exact zh.knows 2 _ rfl
   have y0_0 : w12.cell? ⟨g2, 0, none⟩ = some (.int .i64 0) := ((hB14.cell 0).trans rfl)
   have y0_1 : w12.cell? ⟨g2, 1, none⟩ = some (.slice none 0 0) := ((hB14.cell 1).trans rfl)
   have y0_2 : w12.cell? ⟨g2, 2, none⟩ = some (.slice none 0 0) := ((hB14.cell 2).trans rfl)
   have y0_3 : w12.cell? ⟨g2, 3, none⟩ = some (.slice none 0 0) := ((hB14.cell 3).trans rfl)
   have y0_4 : w12.cell? ⟨g2, 4, none⟩ = some (.slice none 0 0) := ((hB14.cell 4).trans rfl)
   have y0_5 : w12.cell? ⟨g2, 5, none⟩ = some (.slice none 0 0) := ((hB14.cell 5).trans rfl)
   have z1 : za.tmps[3]?.getD undef = .bool false := by rw [← Array.getD_eq_getD_getElem?]; exact zh.knows 3 _ rfl
   simp [results, Try.results11, z0, y0_0, y0_1, y0_2, y0_3, y0_4, y0_5, z1, go_sem]
  ·have hd : dropI l = none := by unfold dropI; rw [if_neg (by have z := h10; simpa using z)]
   exact ⟨_, rfl, by rw [hd]; rfl, hb17⟩
 ·have h10 : ¬ (¬ ((clSmallB 1099511627776 l) = true)) := by simpa using h10
  refine WC.skip (WE.next (WC.seq (WC.seq (WC.region (WL.mv rfl rfl rfl rfl rfl ?_)))))
  refine WL.val (.int .i64 (((l.length : Nat) : Int))) rfl rfl rfl (fun za zC zh zk => len_29 rfl (zh.ev rfl) zk) ?_
  refine WL.mv rfl rfl rfl rfl rfl (WL.nil (WE.next (WC.block ?_)))
  refine WC.loop (X := Nat) (fun i => l.length - i) (fun i => [(0, .slice a l.length c), (2, .pointer (some ⟨g2, 0, none⟩)), (11, .bool ((!(clSmallB 1099511627776 l)))), (13, .slice a l.length c), (14, .int .i64 (((l.length : Nat) : Int))), (15, .int .i64 (((i : Nat) : Int)))]) (fun i w18 => i ≤ l.length ∧ (∀ q, q < i → dropAt l q = false) ∧ Below w.heap.size w w18 ∧ Blk w18 g2 40 #[.int .i64 0, .slice none 0 0, .slice none 0 0, .slice none 0 0, .slice none 0 0, .slice none 0 0]) 0 ⟨rfl, rfl, rfl, rfl, rfl, rfl, trivial⟩ ?_ ?_
  ·have hb19 : Below w.heap.size w w9 := (bstep hb5 hq8)
   have hB20 := hB4.below hq8
   exact ⟨Nat.zero_le _, fun q h => absurd h (Nat.not_lt_zero q), hb19, hB20⟩
  ·rintro i w18 ⟨hi, hall, hb21, hB22⟩
   refine WC.seq (WC.region ?_)
   refine WL.val (.bool ((decide ((((i : Nat) : Int) : Int) < (((l.length : Nat) : Int) : Int))))) rfl rfl rfl (fun za zC zh zk => lss_3 rfl (zh.ev rfl) (zh.ev rfl) zk) ?_
   refine WL.nil (WE.next (WC.seq ?_))
   refine WC.cond rfl (fun h23 => ?_) (fun h23 => ?_)
   ·have h23 : (((i : Nat) : Int) : Int) < (((l.length : Nat) : Int) : Int) := by simpa using h23
    refine WC.skip (WE.next (WC.seq (WC.block (WC.seq (WC.region (WL.mv rfl rfl rfl rfl rfl ?_))))))
    obtain ⟨b24, o25, A26, C27, A28, C29, ha30, hc31⟩ := InRow.openL h.rows
    refine WL.val _ rfl rfl rfl (fun za zC zh zk => ix_29 (k := i) rfl (zh.ev rfl) (ha30 i (by first | omega | (simp; omega))) (zh.ev rfl) (by first | omega | (simp; omega)) zk) ?_
    refine WL.val _ rfl rfl rfl (fun za zC zh zk => ld_60 rfl (zh.ev rfl) (bkeeps hb21 _ _ (hc31 i (by first | omega | (simp; omega))).1) (bkeeps hb21 _ _ (hc31 i (by first | omega | (simp; omega))).2.1) (bkeeps hb21 _ _ (hc31 i (by first | omega | (simp; omega))).2.2.1) (bkeeps hb21 _ _ (hc31 i (by first | omega | (simp; omega))).2.2.2.1) (bkeeps hb21 _ _ (hc31 i (by first | omega | (simp; omega))).2.2.2.2.1) zk) ?_
    refine WL.step (post := NewBlk w18 60 #[.bool false, .int .i64 0, .slice none 0 0, .int .i64 0, .slice none 0 0]) rfl rfl rfl (fun za zC zh zk => alloc_60 rfl (zk _ _ (newBlk _ _ _))) ?_
    rintro _ w32 ⟨g33, rfl, hg34, hB35, hb36, hz37⟩
    have hl38 : g2 < g33 := by have z1 := hB22.lt; omega
    have hl39 : w.heap.size ≤ g33 := by have z2 := (hb21).size; omega
    refine WL.asg rfl rfl rfl rfl rfl ?_
    refine WL.step (post := fun _ w' => Upd g33 w32 w' ∧ Blk w' g33 60 #[.bool ((lget l i).neg), .int .i64 ((lget l i).l.f), .slice ((A26 i)) ((lget l i).l.args.length) ((C27 i)), .int .i64 ((lget l i).r.f), .slice ((A28 i)) ((lget l i).r.args.length) ((C29 i))]) rfl rfl rfl (fun za zC zh zk => st_60 rfl (zh.ev rfl) (zh.ev rfl) rfl rfl rfl rfl rfl hB35 (by first | decide | simp) (fun v => zk v _ ⟨((((Upd.at_ _ _ _ _).trans (Upd.at_ _ _ _ _)).trans (Upd.at_ _ _ _ _)).trans (Upd.at_ _ _ _ _)).trans (Upd.at_ _ _ _ _), ((((hB35.set_ 0 _).set_ 1 _).set_ 2 _).set_ 3 _).set_ 4 _⟩)) ?_
    rintro v43 w40 ⟨hu41, hB42⟩
    have hb44 : Below w.heap.size w w32 := (bstep hb21 hb36)
    have hb45 := upd_below hb44 hu41 (by omega)
    have hB46 := hB22.below hb36
    have hB47 := upd_blk hB46 hu41 (by omega)
    refine WL.nil (WE.next (WC.seq (WC.region (WL.asg rfl rfl rfl rfl rfl (WL.nil (WE.next (WC.seq (WC.seq ?_))))))))
    refine WC.opt [(true, .val (.pointer (some ⟨g33, 0, none⟩))), (true, .val (.bool ((lget l i).neg))), (true, .val (.bool ((lget l i).neg))), ((true && (lget l i).neg), .val (.pointer (some ⟨g33, 1, none⟩))), ((true && (lget l i).neg), .val (.agg #[.int .i64 ((lget l i).l.f), .slice ((A26 i)) ((lget l i).l.args.length) ((C27 i))])), ((true && (lget l i).neg), .val (.pointer (some ⟨g33, 3, none⟩))), ((true && (lget l i).neg), .val (.agg #[.int .i64 ((lget l i).r.f), .slice ((A28 i)) ((lget l i).r.args.length) ((C29 i))])), ((true && (lget l i).neg), .val (.bool ((T.same (lget l i).l (lget l i).r)))), (true, .val (.bool (((lget l i).neg && (T.same (lget l i).l (lget l i).r)))))] [(0, .slice a l.length c), (2, .pointer (some ⟨g2, 0, none⟩)), (4, .int .i64 (((i : Nat) : Int))), (5, .pointer (some ⟨g33, 0, none⟩)), (6, .int .i64 0), (11, .bool ((!(clSmallB 1099511627776 l)))), (13, .slice a l.length c), (14, .int .i64 (((l.length : Nat) : Int))), (15, .int .i64 (((i : Nat) : Int))), (16, .bool ((decide ((((i : Nat) : Int) : Int) < (((l.length : Nat) : Int) : Int)))))] ⟨rfl, rfl, rfl, rfl, rfl, rfl, rfl, rfl, rfl, rfl, trivial⟩ (by kernel_rfl) (by kernel_rfl) (by kernel_rfl) ?_ ?_
    ·refine ⟨⟨true, .none rfl, fun h w => optUndef h, fun zβ za zw zc => ?_⟩, ?_⟩
     ·exact fld_60_0 rfl (zc.kn.ev rfl) ⟨_, rfl, Below.refl _ _, optDef zβ rfl⟩
     refine ⟨⟨true, .none rfl, fun h w => optUndef h, fun zβ za zw zc => ?_⟩, ?_⟩
     ·exact ld_4 rfl ((evt za 20).trans (optVal (zc.dep 0 20 (by kernel_rfl)) rfl rfl)) (bkeeps zc.below _ _ ((hB42.cell 0).trans rfl)) ⟨_, rfl, Below.refl _ _, optDef zβ rfl⟩
     refine ⟨⟨true, .none rfl, fun h w => optUndef h, fun zβ za zw zc => ?_⟩, ?_⟩
     ·exact wp_move rfl ((evt za 21).trans (optVal (zc.dep 1 21 (by kernel_rfl)) rfl rfl)) ⟨_, rfl, Below.refl _ _, optDef zβ rfl⟩
     refine ⟨⟨_, .yes (c := (lget l i).neg) (d := true) rfl (fun v w h => h), fun h w => optUndef h, fun zβ za zw zc => ?_⟩, ?_⟩
     ·exact fld_60_1 rfl (zc.kn.ev rfl) ⟨_, rfl, Below.refl _ _, optDef zβ rfl⟩
     refine ⟨⟨_, .yes (c := (lget l i).neg) (d := true) rfl (fun v w h => h), fun h w => optUndef h, fun zβ za zw zc => ?_⟩, ?_⟩
     ·exact ld_58 rfl ((evt za 23).trans (optVal (zc.dep 3 23 (by kernel_rfl)) rfl zβ)) (bkeeps zc.below _ _ ((hB42.cell 1).trans rfl)) (bkeeps zc.below _ _ ((hB42.cell 2).trans rfl)) ⟨_, rfl, Below.refl _ _, optDef zβ rfl⟩
     refine ⟨⟨_, .yes (c := (lget l i).neg) (d := true) rfl (fun v w h => h), fun h w => optUndef h, fun zβ za zw zc => ?_⟩, ?_⟩
     ·exact fld_60_2 rfl (zc.kn.ev rfl) ⟨_, rfl, Below.refl _ _, optDef zβ rfl⟩
     refine ⟨⟨_, .yes (c := (lget l i).neg) (d := true) rfl (fun v w h => h), fun h w => optUndef h, fun zβ za zw zc => ?_⟩, ?_⟩
     ·exact ld_58 rfl ((evt za 25).trans (optVal (zc.dep 5 25 (by kernel_rfl)) rfl zβ)) (bkeeps zc.below _ _ ((hB42.cell 3).trans rfl)) (bkeeps zc.below _ _ ((hB42.cell 4).trans rfl)) ⟨_, rfl, Below.refl _ _, optDef zβ rfl⟩
     refine ⟨⟨_, .yes (c := (lget l i).neg) (d := true) rfl (fun v w h => h), fun h w => optUndef h, fun zβ za zw zc => ?_⟩, ?_⟩
     ·exact wp_call (by kernel_rfl) rfl (hv2 ((evt za 24).trans (optVal (zc.dep 4 24 (by kernel_rfl)) rfl zβ)) ((evt za 26).trans (optVal (zc.dep 6 26 (by kernel_rfl)) rfl zβ))) (ret_of (same_any _ _ _ _ _ (IsT.below (bstep hb45 zc.below) (InT.isT (hc31 i (by first | omega | (have zz := zβ; simp only [Bool.and_eq_true, Bool.or_eq_true, Bool.true_and, Bool.not_eq_true', Bool.or_eq_false_iff, Bool.and_eq_false_iff, beq_eq_false_iff_ne, ne_eq, beq_iff_eq, decide_eq_true_eq, decide_eq_false_iff_not, bne_iff_ne, bne_eq_false_iff_eq] at zz; omega))).2.2.2.2.2.1)) (IsT.below (bstep hb45 zc.below) (InT.isT (hc31 i (by first | omega | (have zz := zβ; simp only [Bool.and_eq_true, Bool.or_eq_true, Bool.true_and, Bool.not_eq_true', Bool.or_eq_false_iff, Bool.and_eq_false_iff, beq_eq_false_iff_ne, ne_eq, beq_iff_eq, decide_eq_true_eq, decide_eq_false_iff_not, bne_iff_ne, bne_eq_false_iff_eq] at zz; omega))).2.2.2.2.2.2)))) (fun v w' h => ⟨v, rfl, h.2, optDef zβ h.1⟩)
     refine ⟨⟨true, .none rfl, fun h w => optUndef h, fun zβ za zw zc => ?_⟩, ?_⟩
     ·exact wp_and rfl ((evt za 22).trans (optVal (zc.dep 2 22 (by kernel_rfl)) rfl rfl)) (fun hp => ((evt za 27).trans (optVal (zc.dep 7 27 (by kernel_rfl)) rfl (bMk zβ hp)))) ⟨_, rfl, Below.refl _ _, optDef zβ rfl⟩
     exact trivial
    ·intro za w48 zh hb49 zu
     have zh := zh.cons (d := 28) (v := .bool (((lget l i).neg && (T.same (lget l i).l (lget l i).r)))) (optVal (zu 8 28 (by kernel_rfl)) rfl rfl)
     clear zu
     refine WE.go zh ?_
     refine WE.next ?_
     refine WC.cond rfl (fun h50 => ?_) (fun h50 => ?_)
     ·have h50 : ((lget l i).neg = true) ∧ ((T.same (lget l i).l (lget l i).r) = true) := by simpa using h50
      refine WC.region (WL.asg rfl rfl rfl rfl rfl (WL.nil (WE.next (WC.seq (WC.seq (WC.region (WL.mv rfl rfl rfl rfl rfl (WL.mv rfl rfl rfl rfl rfl ?_))))))))
      refine WL.val (.slice a i c) rfl rfl rfl (fun za zC zh zk => shi_29 (k := i) rfl (zh.ev rfl) (zh.ev rfl) (by omega) zk) ?_
      refine WL.val (.int .i64 (((i : Nat) : Int))) rfl rfl rfl (fun za zC zh zk => len_29 rfl (zh.ev rfl) zk) ?_
      refine WL.mv rfl rfl rfl rfl rfl (WL.nil (WE.next (WC.block ?_)))
      refine WC.loop (X := Nat × Int) (fun x => i - x.1) (fun x => [(0, .slice a l.length c), (2, .pointer (some ⟨g2, 0, none⟩)), (4, .int .i64 (((i : Nat) : Int))), (5, .pointer (some ⟨g33, 0, none⟩)), (6, .int .i64 x.2), (11, .bool ((!(clSmallB 1099511627776 l)))), (13, .slice a l.length c), (14, .int .i64 (((l.length : Nat) : Int))), (15, .int .i64 (((i : Nat) : Int))), (16, .bool ((decide ((((i : Nat) : Int) : Int) < (((l.length : Nat) : Int) : Int))))), (28, .bool (((lget l i).neg && (T.same (lget l i).l (lget l i).r)))), (31, .slice a i c), (32, .int .i64 (((i : Nat) : Int))), (33, .int .i64 (((x.1 : Nat) : Int)))]) (fun x w51 => x.1 ≤ i ∧ (x.2 = 0 ↔ dropOne l i = false ∧ ∀ q, q < x.1 → dropPair l i q = false) ∧ (¬ x.2 = 0 → x.2 = dropR l i) ∧ Below w.heap.size w w51 ∧ Blk w51 g2 40 #[.int .i64 0, .slice none 0 0, .slice none 0 0, .slice none 0 0, .slice none 0 0, .slice none 0 0] ∧ Blk w51 g33 60 #[.bool ((lget l i).neg), .int .i64 ((lget l i).l.f), .slice ((A26 i)) ((lget l i).l.args.length) ((C27 i)), .int .i64 ((lget l i).r.f), .slice ((A28 i)) ((lget l i).r.args.length) ((C29 i))]) ((0, 6)) ⟨rfl, rfl, rfl, rfl, rfl, rfl, rfl, rfl, rfl, rfl, rfl, rfl, rfl, rfl, trivial⟩ ?_ ?_
      ·have hb52 : Below w.heap.size w w48 := (bstep hb45 hb49)
       have hB53 := hB47.below hb49
       have hB54 := hB42.below hb49
       exact ⟨Nat.zero_le _, ⟨fun z => absurd z (by decide), fun z => by have z1 := z.1; have z2 : dropOne l i = true := (by unfold dropOne; simpa using h50); rw [z1] at z2; cases z2⟩, fun _ => by unfold dropR; rw [if_pos (by unfold dropOne; simpa using h50)], hb52, hB53, hB54⟩
      ·rintro x w51 ⟨hk, hp, hrr, hb55, hB56, hB57⟩
       refine WC.seq (WC.region ?_)
       refine WL.val (.bool ((decide ((((x.1 : Nat) : Int) : Int) < (((i : Nat) : Int) : Int))))) rfl rfl rfl (fun za zC zh zk => lss_3 rfl (zh.ev rfl) (zh.ev rfl) zk) ?_
       refine WL.nil (WE.next (WC.seq ?_))
       refine WC.cond rfl (fun h58 => ?_) (fun h58 => ?_)
       ·have h58 : (((x.1 : Nat) : Int) : Int) < (((i : Nat) : Int) : Int) := by simpa using h58
        refine WC.skip (WE.next (WC.seq (WC.block (WC.seq (WC.region ?_)))))
        refine WL.val _ rfl rfl rfl (fun za zC zh zk => ix_29 (k := x.1) rfl (zh.ev rfl) (ha30 x.1 (by first | omega | (simp; omega))) (zh.ev rfl) (by first | omega | (simp; omega)) zk) ?_
        refine WL.val _ rfl rfl rfl (fun za zC zh zk => ld_60 rfl (zh.ev rfl) (bkeeps hb55 _ _ (hc31 x.1 (by first | omega | (simp; omega))).1) (bkeeps hb55 _ _ (hc31 x.1 (by first | omega | (simp; omega))).2.1) (bkeeps hb55 _ _ (hc31 x.1 (by first | omega | (simp; omega))).2.2.1) (bkeeps hb55 _ _ (hc31 x.1 (by first | omega | (simp; omega))).2.2.2.1) (bkeeps hb55 _ _ (hc31 x.1 (by first | omega | (simp; omega))).2.2.2.2.1) zk) ?_
        refine WL.step (post := NewBlk w51 60 #[.bool false, .int .i64 0, .slice none 0 0, .int .i64 0, .slice none 0 0]) rfl rfl rfl (fun za zC zh zk => alloc_60 rfl (zk _ _ (newBlk _ _ _))) ?_
        rintro _ w59 ⟨g60, rfl, hg61, hB62, hb63, hz64⟩
        have hl65 : g2 < g60 := by have z1 := hB56.lt; omega
        have hl66 : g33 < g60 := by have z1 := hB57.lt; omega
        have hl67 : w.heap.size ≤ g60 := by have z2 := (hb55).size; omega
        refine WL.step (post := fun _ w' => Upd g60 w59 w' ∧ Blk w' g60 60 #[.bool ((lget l x.1).neg), .int .i64 ((lget l x.1).l.f), .slice ((A26 x.1)) ((lget l x.1).l.args.length) ((C27 x.1)), .int .i64 ((lget l x.1).r.f), .slice ((A28 x.1)) ((lget l x.1).r.args.length) ((C29 x.1))]) rfl rfl rfl (fun za zC zh zk => st_60 rfl (zh.ev rfl) (zh.ev rfl) rfl rfl rfl rfl rfl hB62 (by first | decide | simp) (fun v => zk v _ ⟨((((Upd.at_ _ _ _ _).trans (Upd.at_ _ _ _ _)).trans (Upd.at_ _ _ _ _)).trans (Upd.at_ _ _ _ _)).trans (Upd.at_ _ _ _ _), ((((hB62.set_ 0 _).set_ 1 _).set_ 2 _).set_ 3 _).set_ 4 _⟩)) ?_
        rintro v71 w68 ⟨hu69, hB70⟩
        have hb72 : Below w.heap.size w w59 := (bstep hb55 hb63)
        have hb73 := upd_below hb72 hu69 (by omega)
        have hB74 := hB56.below hb63
        have hB75 := upd_blk hB74 hu69 (by omega)
        have hB76 := hB57.below hb63
        have hB77 := upd_blk hB76 hu69 (by omega)
        refine WL.nil (WE.next (WC.seq ?_))
        refine WC.opt [(true, .val (.int .i64 x.2)), (true, .val (.bool (((x.2 : Int) == (0 : Int))))), (true, .val (.bool (((x.2 : Int) == (0 : Int))))), ((true && ((x.2 : Int) == (0 : Int))), .val (.pointer (some ⟨g60, 0, none⟩))), ((true && ((x.2 : Int) == (0 : Int))), .val (.bool ((lget l x.1).neg))), ((true && ((x.2 : Int) == (0 : Int))), .val (.pointer (some ⟨g33, 0, none⟩))), ((true && ((x.2 : Int) == (0 : Int))), .val (.bool ((lget l i).neg))), ((true && ((x.2 : Int) == (0 : Int))), .val (.bool (((lget l x.1).neg == (lget l i).neg)))), (true, .val (.bool ((((x.2 : Int) == (0 : Int)) && ((lget l x.1).neg == (lget l i).neg))))), (true, .val (.bool ((((x.2 : Int) == (0 : Int)) && ((lget l x.1).neg == (lget l i).neg))))), ((true && (((x.2 : Int) == (0 : Int)) && ((lget l x.1).neg == (lget l i).neg))), .val (.agg #[.bool ((lget l x.1).neg), .int .i64 ((lget l x.1).l.f), .slice ((A26 x.1)) ((lget l x.1).l.args.length) ((C27 x.1)), .int .i64 ((lget l x.1).r.f), .slice ((A28 x.1)) ((lget l x.1).r.args.length) ((C29 x.1))])), ((true && (((x.2 : Int) == (0 : Int)) && ((lget l x.1).neg == (lget l i).neg))), .val (.agg #[.bool ((lget l i).neg), .int .i64 ((lget l i).l.f), .slice ((A26 i)) ((lget l i).l.args.length) ((C27 i)), .int .i64 ((lget l i).r.f), .slice ((A28 i)) ((lget l i).r.args.length) ((C29 i))])), ((true && (((x.2 : Int) == (0 : Int)) && ((lget l x.1).neg == (lget l i).neg))), .val (.bool ((sides (lget l x.1) (lget l i))))), (true, .val (.bool (((((x.2 : Int) == (0 : Int)) && ((lget l x.1).neg == (lget l i).neg)) && (sides (lget l x.1) (lget l i))))))] [(0, .slice a l.length c), (2, .pointer (some ⟨g2, 0, none⟩)), (4, .int .i64 (((i : Nat) : Int))), (5, .pointer (some ⟨g33, 0, none⟩)), (6, .int .i64 x.2), (8, .pointer (some ⟨g60, 0, none⟩)), (11, .bool ((!(clSmallB 1099511627776 l)))), (13, .slice a l.length c), (14, .int .i64 (((l.length : Nat) : Int))), (15, .int .i64 (((i : Nat) : Int))), (16, .bool ((decide ((((i : Nat) : Int) : Int) < (((l.length : Nat) : Int) : Int))))), (28, .bool (((lget l i).neg && (T.same (lget l i).l (lget l i).r)))), (31, .slice a i c), (32, .int .i64 (((i : Nat) : Int))), (33, .int .i64 (((x.1 : Nat) : Int))), (34, .bool ((decide ((((x.1 : Nat) : Int) : Int) < (((i : Nat) : Int) : Int)))))] ⟨rfl, rfl, rfl, rfl, rfl, rfl, rfl, rfl, rfl, rfl, rfl, rfl, rfl, rfl, rfl, rfl, trivial⟩ (by kernel_rfl) (by kernel_rfl) (by kernel_rfl) ?_ ?_
        ·refine ⟨⟨true, .none rfl, fun h w => optUndef h, fun zβ za zw zc => ?_⟩, ?_⟩
         ·exact wp_move rfl (zc.kn.ev rfl) ⟨_, rfl, Below.refl _ _, optDef zβ rfl⟩
         refine ⟨⟨true, .none rfl, fun h w => optUndef h, fun zβ za zw zc => ?_⟩, ?_⟩
         ·exact eql_35 rfl ((evt za 37).trans (optVal (zc.dep 0 37 (by kernel_rfl)) rfl rfl)) (zc.kn.ev rfl) ⟨_, rfl, Below.refl _ _, optDef zβ rfl⟩
         refine ⟨⟨true, .none rfl, fun h w => optUndef h, fun zβ za zw zc => ?_⟩, ?_⟩
         ·exact wp_move rfl ((evt za 38).trans (optVal (zc.dep 1 38 (by kernel_rfl)) rfl rfl)) ⟨_, rfl, Below.refl _ _, optDef zβ rfl⟩
         refine ⟨⟨_, .yes (c := ((x.2 : Int) == (0 : Int))) (d := true) rfl (fun v w h => h), fun h w => optUndef h, fun zβ za zw zc => ?_⟩, ?_⟩
         ·exact fld_60_0 rfl (zc.kn.ev rfl) ⟨_, rfl, Below.refl _ _, optDef zβ rfl⟩
         refine ⟨⟨_, .yes (c := ((x.2 : Int) == (0 : Int))) (d := true) rfl (fun v w h => h), fun h w => optUndef h, fun zβ za zw zc => ?_⟩, ?_⟩
         ·exact ld_4 rfl ((evt za 40).trans (optVal (zc.dep 3 40 (by kernel_rfl)) rfl zβ)) (bkeeps zc.below _ _ ((hB70.cell 0).trans rfl)) ⟨_, rfl, Below.refl _ _, optDef zβ rfl⟩
         refine ⟨⟨_, .yes (c := ((x.2 : Int) == (0 : Int))) (d := true) rfl (fun v w h => h), fun h w => optUndef h, fun zβ za zw zc => ?_⟩, ?_⟩
         ·exact fld_60_0 rfl (zc.kn.ev rfl) ⟨_, rfl, Below.refl _ _, optDef zβ rfl⟩
         refine ⟨⟨_, .yes (c := ((x.2 : Int) == (0 : Int))) (d := true) rfl (fun v w h => h), fun h w => optUndef h, fun zβ za zw zc => ?_⟩, ?_⟩
         ·exact ld_4 rfl ((evt za 42).trans (optVal (zc.dep 5 42 (by kernel_rfl)) rfl zβ)) (bkeeps zc.below _ _ ((hB77.cell 0).trans rfl)) ⟨_, rfl, Below.refl _ _, optDef zβ rfl⟩
         refine ⟨⟨_, .yes (c := ((x.2 : Int) == (0 : Int))) (d := true) rfl (fun v w h => h), fun h w => optUndef h, fun zβ za zw zc => ?_⟩, ?_⟩
         ·exact eql_4 rfl ((evt za 41).trans (optVal (zc.dep 4 41 (by kernel_rfl)) rfl zβ)) ((evt za 43).trans (optVal (zc.dep 6 43 (by kernel_rfl)) rfl zβ)) ⟨_, rfl, Below.refl _ _, optDef zβ rfl⟩
         refine ⟨⟨true, .none rfl, fun h w => optUndef h, fun zβ za zw zc => ?_⟩, ?_⟩
         ·exact wp_and rfl ((evt za 39).trans (optVal (zc.dep 2 39 (by kernel_rfl)) rfl rfl)) (fun hp => ((evt za 44).trans (optVal (zc.dep 7 44 (by kernel_rfl)) rfl (bMk zβ hp)))) ⟨_, rfl, Below.refl _ _, optDef zβ rfl⟩
         refine ⟨⟨true, .none rfl, fun h w => optUndef h, fun zβ za zw zc => ?_⟩, ?_⟩
         ·exact wp_move rfl ((evt za 45).trans (optVal (zc.dep 8 45 (by kernel_rfl)) rfl rfl)) ⟨_, rfl, Below.refl _ _, optDef zβ rfl⟩
         refine ⟨⟨_, .yes (c := (((x.2 : Int) == (0 : Int)) && ((lget l x.1).neg == (lget l i).neg))) (d := true) rfl (fun v w h => h), fun h w => optUndef h, fun zβ za zw zc => ?_⟩, ?_⟩
         ·exact ld_60 rfl (zc.kn.ev rfl) (bkeeps zc.below _ _ ((hB70.cell 0).trans rfl)) (bkeeps zc.below _ _ ((hB70.cell 1).trans rfl)) (bkeeps zc.below _ _ ((hB70.cell 2).trans rfl)) (bkeeps zc.below _ _ ((hB70.cell 3).trans rfl)) (bkeeps zc.below _ _ ((hB70.cell 4).trans rfl)) ⟨_, rfl, Below.refl _ _, optDef zβ rfl⟩
         refine ⟨⟨_, .yes (c := (((x.2 : Int) == (0 : Int)) && ((lget l x.1).neg == (lget l i).neg))) (d := true) rfl (fun v w h => h), fun h w => optUndef h, fun zβ za zw zc => ?_⟩, ?_⟩
         ·exact ld_60 rfl (zc.kn.ev rfl) (bkeeps zc.below _ _ ((hB77.cell 0).trans rfl)) (bkeeps zc.below _ _ ((hB77.cell 1).trans rfl)) (bkeeps zc.below _ _ ((hB77.cell 2).trans rfl)) (bkeeps zc.below _ _ ((hB77.cell 3).trans rfl)) (bkeeps zc.below _ _ ((hB77.cell 4).trans rfl)) ⟨_, rfl, Below.refl _ _, optDef zβ rfl⟩
         refine ⟨⟨_, .yes (c := (((x.2 : Int) == (0 : Int)) && ((lget l x.1).neg == (lget l i).neg))) (d := true) rfl (fun v w h => h), fun h w => optUndef h, fun zβ za zw zc => ?_⟩, ?_⟩
         ·exact wp_call (by kernel_rfl) rfl (hv2 ((evt za 47).trans (optVal (zc.dep 10 47 (by kernel_rfl)) rfl zβ)) ((evt za 48).trans (optVal (zc.dep 11 48 (by kernel_rfl)) rfl zβ))) (tsame_any (lget l x.1) (lget l i) _ _ _ (isLi_mk (IsT.below (bstep hb73 zc.below) (InT.isT (hc31 x.1 (by first | omega | (have zz := zβ; simp only [Bool.and_eq_true, Bool.or_eq_true, Bool.true_and, Bool.not_eq_true', Bool.or_eq_false_iff, Bool.and_eq_false_iff, beq_eq_false_iff_ne, ne_eq, beq_iff_eq, decide_eq_true_eq, decide_eq_false_iff_not, bne_iff_ne, bne_eq_false_iff_eq] at zz; omega))).2.2.2.2.2.1)) (IsT.below (bstep hb73 zc.below) (InT.isT (hc31 x.1 (by first | omega | (have zz := zβ; simp only [Bool.and_eq_true, Bool.or_eq_true, Bool.true_and, Bool.not_eq_true', Bool.or_eq_false_iff, Bool.and_eq_false_iff, beq_eq_false_iff_ne, ne_eq, beq_iff_eq, decide_eq_true_eq, decide_eq_false_iff_not, bne_iff_ne, bne_eq_false_iff_eq] at zz; omega))).2.2.2.2.2.2))) (isLi_mk (IsT.below (bstep hb73 zc.below) (InT.isT (hc31 i (by first | omega | (have zz := zβ; simp only [Bool.and_eq_true, Bool.or_eq_true, Bool.true_and, Bool.not_eq_true', Bool.or_eq_false_iff, Bool.and_eq_false_iff, beq_eq_false_iff_ne, ne_eq, beq_iff_eq, decide_eq_true_eq, decide_eq_false_iff_not, bne_iff_ne, bne_eq_false_iff_eq] at zz; omega))).2.2.2.2.2.1)) (IsT.below (bstep hb73 zc.below) (InT.isT (hc31 i (by first | omega | (have zz := zβ; simp only [Bool.and_eq_true, Bool.or_eq_true, Bool.true_and, Bool.not_eq_true', Bool.or_eq_false_iff, Bool.and_eq_false_iff, beq_eq_false_iff_ne, ne_eq, beq_iff_eq, decide_eq_true_eq, decide_eq_false_iff_not, bne_iff_ne, bne_eq_false_iff_eq] at zz; omega))).2.2.2.2.2.2)))) (fun v w' h => ⟨v, rfl, h.2, optDef zβ h.1⟩)
         refine ⟨⟨true, .none rfl, fun h w => optUndef h, fun zβ za zw zc => ?_⟩, ?_⟩
         ·exact wp_and rfl ((evt za 46).trans (optVal (zc.dep 9 46 (by kernel_rfl)) rfl rfl)) (fun hp => ((evt za 49).trans (optVal (zc.dep 12 49 (by kernel_rfl)) rfl (bMk zβ hp)))) ⟨_, rfl, Below.refl _ _, optDef zβ rfl⟩
         exact trivial
        ·intro za w79 zh hb80 zu
         have zh := zh.cons (d := 50) (v := .bool (((((x.2 : Int) == (0 : Int)) && ((lget l x.1).neg == (lget l i).neg)) && (sides (lget l x.1) (lget l i))))) (optVal (zu 13 50 (by kernel_rfl)) rfl rfl)
         clear zu
         refine WE.go zh ?_
         refine WE.next ?_
         refine WC.cond rfl (fun h81 => ?_) (fun h81 => ?_)
         ·have h81 : (((x.2 : Int) = (0 : Int)) ∧ ((lget l x.1).neg = (lget l i).neg)) ∧ ((sides (lget l x.1) (lget l i)) = true) := by simpa using h81
          refine WC.region (WL.asg rfl rfl rfl rfl rfl (WL.nil (WE.blockNormal (WE.next (WC.region ?_)))))
          refine WL.val (.int .i64 ((((x.1 + 1) : Nat) : Int))) rfl rfl rfl (fun za zC zh zk => addb_3 rfl (zh.ev rfl) (zh.ev rfl) (wrap_eq (by omega) (by omega) (by omega)) zk) ?_
          refine WL.mv rfl rfl rfl rfl rfl (WL.nil ?_)
          have hz50 : x.2 = 0 ∧ dropPair l i x.1 = true := by
           have z : x.2 = 0 ∧ (lget l x.1).neg = (lget l i).neg ∧ sides (lget l x.1) (lget l i) = true := by simpa [and_assoc] using h81
           exact ⟨z.1, by unfold dropPair; rw [Bool.and_eq_true, beq_iff_eq]; exact z.2⟩
          refine WE.round ((x.1 + 1, 7)) ⟨rfl, rfl, rfl, rfl, rfl, rfl, rfl, rfl, rfl, rfl, rfl, rfl, rfl, rfl, trivial⟩ ?_ ?_
          ·have hb82 : Below w.heap.size w w79 := (bstep hb73 hb80)
           have hB83 := hB75.below hb80
           have hB84 := hB77.below hb80
           exact ⟨by (try dsimp only at *); omega, ⟨fun z => by have z9 : (7 : Int) = 0 := z; exact absurd z9 (by decide), fun z => by have z1 := z.2 x.1 (by omega); rw [hz50.2] at z1; cases z1⟩, fun _ => by unfold dropR; rw [if_neg (by rw [(hp.1 hz50.1).1]; decide)], hb82, hB83, hB84⟩
          ·dsimp only; omega
         ·have h81 : ¬ ((((x.2 : Int) = (0 : Int)) ∧ ((lget l x.1).neg = (lget l i).neg)) ∧ ((sides (lget l x.1) (lget l i)) = true)) := by simpa using h81
          refine WC.skip (WE.blockNormal (WE.next (WC.region ?_)))
          refine WL.val (.int .i64 ((((x.1 + 1) : Nat) : Int))) rfl rfl rfl (fun za zC zh zk => addb_3 rfl (zh.ev rfl) (zh.ev rfl) (wrap_eq (by omega) (by omega) (by omega)) zk) ?_
          refine WL.mv rfl rfl rfl rfl rfl (WL.nil ?_)
          have hz50 : ¬ (x.2 = 0 ∧ dropPair l i x.1 = true) := by
           rintro ⟨z1, z2⟩
           have z := h81
           unfold dropPair at z2; rw [Bool.and_eq_true, beq_iff_eq] at z2
           simp [z1, z2.1, z2.2] at z
          refine WE.round ((x.1 + 1, x.2)) ⟨rfl, rfl, rfl, rfl, rfl, rfl, rfl, rfl, rfl, rfl, rfl, rfl, rfl, rfl, trivial⟩ ?_ ?_
          ·have hb85 : Below w.heap.size w w79 := (bstep hb73 hb80)
           have hB86 := hB75.below hb80
           have hB87 := hB77.below hb80
           exact ⟨by (try dsimp only at *); omega, ⟨fun z => ⟨(hp.1 z).1, fun q hq => by
              by_cases e : q = x.1
              ·rw [e, Bool.eq_false_iff]; exact fun z2 => hz50 ⟨z, z2⟩
              ·exact (hp.1 z).2 q (by omega)⟩, fun z => hp.2 ⟨z.1, fun q hq => z.2 q (by omega)⟩⟩, hrr, hb85, hB86, hB87⟩
          ·dsimp only; omega
       ·have h58 : ¬ ((((x.1 : Nat) : Int) : Int) < (((i : Nat) : Int) : Int)) := by simpa using h58
        refine WC.exit (WE.thenExit (WE.thenExit (WE.blockIs rfl (WE.next (WC.seq (WC.region (WL.mv rfl rfl rfl rfl rfl ?_)))))))
        refine WL.val (.bool (((x.2 : Int) != (0 : Int)))) rfl rfl rfl (fun za zC zh zk => neq_35 rfl (zh.ev rfl) (zh.ev rfl) zk) ?_
        refine WL.nil (WE.next ?_)
        refine WC.cond rfl (fun h88 => ?_) (fun h88 => ?_)
        ·have h88 : (x.2 : Int) ≠ (0 : Int) := by simpa using h88
         refine WC.seq (WC.region (WL.mv rfl rfl rfl rfl rfl ?_))
         refine WL.step (post := NewRow w51 3 #[.int .i64 0] 1) rfl rfl rfl (fun za zC zh zk => row_36_1 rfl (zh.ev rfl) (zk _ _ (newRow _ _ _ _))) ?_
         rintro _ w89 ⟨g90, rfl, hg91, hB92, hb93, hz94⟩
         have hl95 : g2 < g90 := by have z1 := hB56.lt; omega
         have hl96 : g33 < g90 := by have z1 := hB57.lt; omega
         have hl97 : w.heap.size ≤ g90 := by have z2 := (hb55).size; omega
         refine WL.mv rfl rfl rfl rfl rfl ?_
         refine WL.step (post := NewRow w89 3 #[.int .i64 (((i : Nat) : Int))] 1) rfl rfl rfl (fun za zC zh zk => row_36_1 rfl (zh.ev rfl) (zk _ _ (newRow _ _ _ _))) ?_
         rintro _ w98 ⟨g99, rfl, hg100, hB101, hb102, hz103⟩
         have hl104 : g2 < g99 := by have z1 := hB56.lt; have z2 := (hb93).size; omega
         have hl105 : g33 < g99 := by have z1 := hB57.lt; have z2 := (hb93).size; omega
         have hl106 : g90 < g99 := by have z1 := hB92.lt; omega
         have hb107 : Below w.heap.size w w89 := (bstep hb55 hb93)
         have hl108 : w.heap.size ≤ g99 := by have z2 := (hb107).size; omega
         refine WL.mv rfl rfl rfl rfl rfl (WL.mv rfl rfl rfl rfl rfl ?_)
         have hb110 : Below w51.heap.size w51 w98 := (bstep hb93 hb102)
         have hB109 := hB56.below hb110
         have hb111 : Below w.heap.size w w98 := (bstep hb55 hb110)
         refine WL.call rfl rfl rfl (fun za zh zC => wp_call (by kernel_rfl) rfl (hv2 (zh.ev rfl) (zh.ev rfl))) (without_any l i (by omega) _ _ _ (h.below hb111) hlen) ?_
         rintro _ w112 ⟨⟨p9, c9, rfl, hN9⟩, hb9⟩
         refine WL.val (.agg #[.int .i64 x.2, .slice ((some ⟨g90, 0, none⟩)) 1 1, .slice ((some ⟨g99, 0, none⟩)) 1 1, .slice none 0 0, .slice none 0 0, .slice p9 ((l.eraseIdx i).length) c9]) rfl rfl rfl (fun za zC zh zk => build_40_0_1_2_5 rfl (zh.ev rfl) (zh.ev rfl) (zh.ev rfl) (zh.ev rfl) zk) ?_
         have hB113 := hB109.below hb9
         refine WL.step (post := fun _ w' => Upd g2 w112 w' ∧ Blk w' g2 40 #[.int .i64 x.2, .slice ((some ⟨g90, 0, none⟩)) 1 1, .slice ((some ⟨g99, 0, none⟩)) 1 1, .slice none 0 0, .slice none 0 0, .slice p9 ((l.eraseIdx i).length) c9]) rfl rfl rfl (fun za zC zh zk => st_40 rfl (zh.ev rfl) (zh.ev rfl) rfl rfl rfl rfl rfl rfl hB113 (by first | decide | simp) (fun v => zk v _ ⟨(((((Upd.at_ _ _ _ _).trans (Upd.at_ _ _ _ _)).trans (Upd.at_ _ _ _ _)).trans (Upd.at_ _ _ _ _)).trans (Upd.at_ _ _ _ _)).trans (Upd.at_ _ _ _ _), (((((hB113.set_ 0 _).set_ 1 _).set_ 2 _).set_ 3 _).set_ 4 _).set_ 5 _⟩)) ?_
         rintro v117 w114 ⟨hu115, hB116⟩
         have hb118 : Below w.heap.size w w112 := (bstep hb111 hb9)
         have hb119 := upd_below hb118 hu115 (by omega)
         have hb121 : Below w51.heap.size w51 w112 := (bstep hb110 hb9)
         have hB120 := hB57.below hb121
         have hB122 := upd_blk hB120 hu115 (by omega)
         have hb124 : Below w89.heap.size w89 w112 := (bstep hb102 hb9)
         have hB123 := hB92.below hb124
         have hB125 := upd_blk hB123 hu115 (by omega)
         have hB126 := hB101.below hb9
         have hB127 := upd_blk hB126 hu115 (by omega)
         refine WL.asg rfl rfl rfl rfl rfl (WL.nil (WE.next (WC.ret (WE.blockRet (WE.thenRet (WE.thenRet (WE.blockRet (WE.thenRet ?_))))))))
         refine WE.retAny (v := .tuple #[.agg #[.int .i64 x.2, .slice ((some ⟨g90, 0, none⟩)) 1 1, .slice ((some ⟨g99, 0, none⟩)) 1 1, .slice none 0 0, .slice none 0 0, .slice p9 ((l.eraseIdx i).length) c9], .bool true]) (fun za zh => ?_) ?_
         ·have z0 : za.tmps[2]?.getD undef = .pointer (some ⟨g2, 0, none⟩) := by rw [← Array.getD_eq_getD_getElem?]; exact zh.knows 2 _ rfl
          have y0_0 : w114.cell? ⟨g2, 0, none⟩ = some (.int .i64 x.2) := ((hB116.cell 0).trans rfl)
          have y0_1 : w114.cell? ⟨g2, 1, none⟩ = some (.slice ((some ⟨g90, 0, none⟩)) 1 1) := ((hB116.cell 1).trans rfl)
          have y0_2 : w114.cell? ⟨g2, 2, none⟩ = some (.slice ((some ⟨g99, 0, none⟩)) 1 1) := ((hB116.cell 2).trans rfl)
          have y0_3 : w114.cell? ⟨g2, 3, none⟩ = some (.slice none 0 0) := ((hB116.cell 3).trans rfl)
          have y0_4 : w114.cell? ⟨g2, 4, none⟩ = some (.slice none 0 0) := ((hB116.cell 4).trans rfl)
          have y0_5 : w114.cell? ⟨g2, 5, none⟩ = some (.slice p9 ((l.eraseIdx i).length) c9) := ((hB116.cell 5).trans rfl)
          have z1 : za.tmps[3]?.getD undef = .bool true := by rw [← Array.getD_eq_getD_getElem?]; exact zh.knows 3 _ rfl
          simp [results, Try.results11, z0, y0_0, y0_1, y0_2, y0_3, y0_4, y0_5, z1, go_sem]
         ·have hz53 : ¬ x.2 = 0 := by have z := h88; simpa using z
          have hki : x.1 = i := by (try dsimp only at *); omega
          have hto : dropAt l i = true := by
           cases z : dropAt l i with
           | true => rfl
           | false =>
            exfalso; apply hz53; apply hp.2
            unfold dropAt at z
            rw [Bool.or_eq_false_iff, List.any_eq_false] at z
            exact ⟨z.1, fun q hq => by have z1 := z.2 q (List.mem_range.2 (by omega)); simpa using z1⟩
          have hf : clSmallB 1099511627776 l = true := by simpa using h10
          have hd : dropI l = some i := by unfold dropI; rw [if_pos hf, firstR_some (show i < l.length by omega) hall hto]
          have hs128 : Chg ((fun b => b = g2)) w112 w114 := (Chg.trans2 (Chg.refl ((fun b => b = g2)) _) (Chg.ofUpd (S := fun k => k = g2) hu115 rfl) (fun i h1 h2 => by first | exact h2 | exact .inl ⟨h2, h1⟩ | exact .inl h2 | exact .inr h2 | exact .inr (.inl h2) | exact .inr (.inr h2) | ((try dsimp only at *); omega)))
          exact ⟨_, rfl, by rw [hd, hrr hz53]; exact ⟨_, rfl, _, _, _, _, _, _, _, _, rfl, (hN9.chg hs128 (fun b hb e => by have z := hB109.lt; have z2 := ((Below.refl _ _ : Below 0 w98 w98)).size; (try dsimp only at *); omega)).older (hb111).size⟩, hb119⟩
        ·have h88 : ¬ ((x.2 : Int) ≠ (0 : Int)) := by simpa using h88
         refine WC.skip (WE.blockNormal (WE.next (WC.region ?_)))
         refine WL.val (.int .i64 ((((i + 1) : Nat) : Int))) rfl rfl rfl (fun za zC zh zk => addb_3 rfl (zh.ev rfl) (zh.ev rfl) (wrap_eq (by omega) (by omega) (by omega)) zk) ?_
         refine WL.mv rfl rfl rfl rfl rfl (WL.nil ?_)
         have hto : dropAt l i = false := by
          have z0 : x.2 = 0 := by have z := h88; simpa using z
          have z1 := hp.1 z0
          have hki : x.1 = i := by (try dsimp only at *); omega
          unfold dropAt; rw [z1.1, anyR_false (fun q hq => z1.2 q (by omega))]; rfl
         refine WE.round (i + 1) ⟨rfl, rfl, rfl, rfl, rfl, rfl, trivial⟩ ?_ ?_
         ·exact ⟨by omega, fun q hq => by
            by_cases e : q = i
            ·rw [e]; exact hto
            ·exact hall q (by omega), hb55, hB56⟩
         ·omega
     ·have h50 : ¬ (((lget l i).neg = true) ∧ ((T.same (lget l i).l (lget l i).r) = true)) := by simpa using h50
      refine WC.skip (WE.next (WC.seq (WC.seq (WC.region (WL.mv rfl rfl rfl rfl rfl (WL.mv rfl rfl rfl rfl rfl ?_))))))
      refine WL.val (.slice a i c) rfl rfl rfl (fun za zC zh zk => shi_29 (k := i) rfl (zh.ev rfl) (zh.ev rfl) (by omega) zk) ?_
      refine WL.val (.int .i64 (((i : Nat) : Int))) rfl rfl rfl (fun za zC zh zk => len_29 rfl (zh.ev rfl) zk) ?_
      refine WL.mv rfl rfl rfl rfl rfl (WL.nil (WE.next (WC.block ?_)))
      refine WC.loop (X := Nat × Int) (fun x => i - x.1) (fun x => [(0, .slice a l.length c), (2, .pointer (some ⟨g2, 0, none⟩)), (4, .int .i64 (((i : Nat) : Int))), (5, .pointer (some ⟨g33, 0, none⟩)), (6, .int .i64 x.2), (11, .bool ((!(clSmallB 1099511627776 l)))), (13, .slice a l.length c), (14, .int .i64 (((l.length : Nat) : Int))), (15, .int .i64 (((i : Nat) : Int))), (16, .bool ((decide ((((i : Nat) : Int) : Int) < (((l.length : Nat) : Int) : Int))))), (28, .bool (((lget l i).neg && (T.same (lget l i).l (lget l i).r)))), (31, .slice a i c), (32, .int .i64 (((i : Nat) : Int))), (33, .int .i64 (((x.1 : Nat) : Int)))]) (fun x w129 => x.1 ≤ i ∧ (x.2 = 0 ↔ dropOne l i = false ∧ ∀ q, q < x.1 → dropPair l i q = false) ∧ (¬ x.2 = 0 → x.2 = dropR l i) ∧ Below w.heap.size w w129 ∧ Blk w129 g2 40 #[.int .i64 0, .slice none 0 0, .slice none 0 0, .slice none 0 0, .slice none 0 0, .slice none 0 0] ∧ Blk w129 g33 60 #[.bool ((lget l i).neg), .int .i64 ((lget l i).l.f), .slice ((A26 i)) ((lget l i).l.args.length) ((C27 i)), .int .i64 ((lget l i).r.f), .slice ((A28 i)) ((lget l i).r.args.length) ((C29 i))]) ((0, 0)) ⟨rfl, rfl, rfl, rfl, rfl, rfl, rfl, rfl, rfl, rfl, rfl, rfl, rfl, rfl, trivial⟩ ?_ ?_
      ·have hb130 : Below w.heap.size w w48 := (bstep hb45 hb49)
       have hB131 := hB47.below hb49
       have hB132 := hB42.below hb49
       exact ⟨Nat.zero_le _, ⟨fun _ => ⟨by have z := h50; unfold dropOne; simpa using z, fun q hq => absurd hq (Nat.not_lt_zero q)⟩, fun _ => rfl⟩, fun z => absurd rfl z, hb130, hB131, hB132⟩
      ·rintro x w129 ⟨hk, hp, hrr, hb133, hB134, hB135⟩
       refine WC.seq (WC.region ?_)
       refine WL.val (.bool ((decide ((((x.1 : Nat) : Int) : Int) < (((i : Nat) : Int) : Int))))) rfl rfl rfl (fun za zC zh zk => lss_3 rfl (zh.ev rfl) (zh.ev rfl) zk) ?_
       refine WL.nil (WE.next (WC.seq ?_))
       refine WC.cond rfl (fun h136 => ?_) (fun h136 => ?_)
       ·have h136 : (((x.1 : Nat) : Int) : Int) < (((i : Nat) : Int) : Int) := by simpa using h136
        refine WC.skip (WE.next (WC.seq (WC.block (WC.seq (WC.region ?_)))))
        refine WL.val _ rfl rfl rfl (fun za zC zh zk => ix_29 (k := x.1) rfl (zh.ev rfl) (ha30 x.1 (by first | omega | (simp; omega))) (zh.ev rfl) (by first | omega | (simp; omega)) zk) ?_
        refine WL.val _ rfl rfl rfl (fun za zC zh zk => ld_60 rfl (zh.ev rfl) (bkeeps hb133 _ _ (hc31 x.1 (by first | omega | (simp; omega))).1) (bkeeps hb133 _ _ (hc31 x.1 (by first | omega | (simp; omega))).2.1) (bkeeps hb133 _ _ (hc31 x.1 (by first | omega | (simp; omega))).2.2.1) (bkeeps hb133 _ _ (hc31 x.1 (by first | omega | (simp; omega))).2.2.2.1) (bkeeps hb133 _ _ (hc31 x.1 (by first | omega | (simp; omega))).2.2.2.2.1) zk) ?_
        refine WL.step (post := NewBlk w129 60 #[.bool false, .int .i64 0, .slice none 0 0, .int .i64 0, .slice none 0 0]) rfl rfl rfl (fun za zC zh zk => alloc_60 rfl (zk _ _ (newBlk _ _ _))) ?_
        rintro _ w137 ⟨g138, rfl, hg139, hB140, hb141, hz142⟩
        have hl143 : g2 < g138 := by have z1 := hB134.lt; omega
        have hl144 : g33 < g138 := by have z1 := hB135.lt; omega
        have hl145 : w.heap.size ≤ g138 := by have z2 := (hb133).size; omega
        refine WL.step (post := fun _ w' => Upd g138 w137 w' ∧ Blk w' g138 60 #[.bool ((lget l x.1).neg), .int .i64 ((lget l x.1).l.f), .slice ((A26 x.1)) ((lget l x.1).l.args.length) ((C27 x.1)), .int .i64 ((lget l x.1).r.f), .slice ((A28 x.1)) ((lget l x.1).r.args.length) ((C29 x.1))]) rfl rfl rfl (fun za zC zh zk => st_60 rfl (zh.ev rfl) (zh.ev rfl) rfl rfl rfl rfl rfl hB140 (by first | decide | simp) (fun v => zk v _ ⟨((((Upd.at_ _ _ _ _).trans (Upd.at_ _ _ _ _)).trans (Upd.at_ _ _ _ _)).trans (Upd.at_ _ _ _ _)).trans (Upd.at_ _ _ _ _), ((((hB140.set_ 0 _).set_ 1 _).set_ 2 _).set_ 3 _).set_ 4 _⟩)) ?_
        rintro v149 w146 ⟨hu147, hB148⟩
        have hb150 : Below w.heap.size w w137 := (bstep hb133 hb141)
        have hb151 := upd_below hb150 hu147 (by omega)
        have hB152 := hB134.below hb141
        have hB153 := upd_blk hB152 hu147 (by omega)
        have hB154 := hB135.below hb141
        have hB155 := upd_blk hB154 hu147 (by omega)
        refine WL.nil (WE.next (WC.seq ?_))
        refine WC.opt [(true, .val (.int .i64 x.2)), (true, .val (.bool (((x.2 : Int) == (0 : Int))))), (true, .val (.bool (((x.2 : Int) == (0 : Int))))), ((true && ((x.2 : Int) == (0 : Int))), .val (.pointer (some ⟨g138, 0, none⟩))), ((true && ((x.2 : Int) == (0 : Int))), .val (.bool ((lget l x.1).neg))), ((true && ((x.2 : Int) == (0 : Int))), .val (.pointer (some ⟨g33, 0, none⟩))), ((true && ((x.2 : Int) == (0 : Int))), .val (.bool ((lget l i).neg))), ((true && ((x.2 : Int) == (0 : Int))), .val (.bool (((lget l x.1).neg == (lget l i).neg)))), (true, .val (.bool ((((x.2 : Int) == (0 : Int)) && ((lget l x.1).neg == (lget l i).neg))))), (true, .val (.bool ((((x.2 : Int) == (0 : Int)) && ((lget l x.1).neg == (lget l i).neg))))), ((true && (((x.2 : Int) == (0 : Int)) && ((lget l x.1).neg == (lget l i).neg))), .val (.agg #[.bool ((lget l x.1).neg), .int .i64 ((lget l x.1).l.f), .slice ((A26 x.1)) ((lget l x.1).l.args.length) ((C27 x.1)), .int .i64 ((lget l x.1).r.f), .slice ((A28 x.1)) ((lget l x.1).r.args.length) ((C29 x.1))])), ((true && (((x.2 : Int) == (0 : Int)) && ((lget l x.1).neg == (lget l i).neg))), .val (.agg #[.bool ((lget l i).neg), .int .i64 ((lget l i).l.f), .slice ((A26 i)) ((lget l i).l.args.length) ((C27 i)), .int .i64 ((lget l i).r.f), .slice ((A28 i)) ((lget l i).r.args.length) ((C29 i))])), ((true && (((x.2 : Int) == (0 : Int)) && ((lget l x.1).neg == (lget l i).neg))), .val (.bool ((sides (lget l x.1) (lget l i))))), (true, .val (.bool (((((x.2 : Int) == (0 : Int)) && ((lget l x.1).neg == (lget l i).neg)) && (sides (lget l x.1) (lget l i))))))] [(0, .slice a l.length c), (2, .pointer (some ⟨g2, 0, none⟩)), (4, .int .i64 (((i : Nat) : Int))), (5, .pointer (some ⟨g33, 0, none⟩)), (6, .int .i64 x.2), (8, .pointer (some ⟨g138, 0, none⟩)), (11, .bool ((!(clSmallB 1099511627776 l)))), (13, .slice a l.length c), (14, .int .i64 (((l.length : Nat) : Int))), (15, .int .i64 (((i : Nat) : Int))), (16, .bool ((decide ((((i : Nat) : Int) : Int) < (((l.length : Nat) : Int) : Int))))), (28, .bool (((lget l i).neg && (T.same (lget l i).l (lget l i).r)))), (31, .slice a i c), (32, .int .i64 (((i : Nat) : Int))), (33, .int .i64 (((x.1 : Nat) : Int))), (34, .bool ((decide ((((x.1 : Nat) : Int) : Int) < (((i : Nat) : Int) : Int)))))] ⟨rfl, rfl, rfl, rfl, rfl, rfl, rfl, rfl, rfl, rfl, rfl, rfl, rfl, rfl, rfl, rfl, trivial⟩ (by kernel_rfl) (by kernel_rfl) (by kernel_rfl) ?_ ?_
        ·refine ⟨⟨true, .none rfl, fun h w => optUndef h, fun zβ za zw zc => ?_⟩, ?_⟩
         ·exact wp_move rfl (zc.kn.ev rfl) ⟨_, rfl, Below.refl _ _, optDef zβ rfl⟩
         refine ⟨⟨true, .none rfl, fun h w => optUndef h, fun zβ za zw zc => ?_⟩, ?_⟩
         ·exact eql_35 rfl ((evt za 37).trans (optVal (zc.dep 0 37 (by kernel_rfl)) rfl rfl)) (zc.kn.ev rfl) ⟨_, rfl, Below.refl _ _, optDef zβ rfl⟩
         refine ⟨⟨true, .none rfl, fun h w => optUndef h, fun zβ za zw zc => ?_⟩, ?_⟩
         ·exact wp_move rfl ((evt za 38).trans (optVal (zc.dep 1 38 (by kernel_rfl)) rfl rfl)) ⟨_, rfl, Below.refl _ _, optDef zβ rfl⟩
         refine ⟨⟨_, .yes (c := ((x.2 : Int) == (0 : Int))) (d := true) rfl (fun v w h => h), fun h w => optUndef h, fun zβ za zw zc => ?_⟩, ?_⟩
         ·exact fld_60_0 rfl (zc.kn.ev rfl) ⟨_, rfl, Below.refl _ _, optDef zβ rfl⟩
         refine ⟨⟨_, .yes (c := ((x.2 : Int) == (0 : Int))) (d := true) rfl (fun v w h => h), fun h w => optUndef h, fun zβ za zw zc => ?_⟩, ?_⟩
         ·exact ld_4 rfl ((evt za 40).trans (optVal (zc.dep 3 40 (by kernel_rfl)) rfl zβ)) (bkeeps zc.below _ _ ((hB148.cell 0).trans rfl)) ⟨_, rfl, Below.refl _ _, optDef zβ rfl⟩
         refine ⟨⟨_, .yes (c := ((x.2 : Int) == (0 : Int))) (d := true) rfl (fun v w h => h), fun h w => optUndef h, fun zβ za zw zc => ?_⟩, ?_⟩
         ·exact fld_60_0 rfl (zc.kn.ev rfl) ⟨_, rfl, Below.refl _ _, optDef zβ rfl⟩
         refine ⟨⟨_, .yes (c := ((x.2 : Int) == (0 : Int))) (d := true) rfl (fun v w h => h), fun h w => optUndef h, fun zβ za zw zc => ?_⟩, ?_⟩
         ·exact ld_4 rfl ((evt za 42).trans (optVal (zc.dep 5 42 (by kernel_rfl)) rfl zβ)) (bkeeps zc.below _ _ ((hB155.cell 0).trans rfl)) ⟨_, rfl, Below.refl _ _, optDef zβ rfl⟩
         refine ⟨⟨_, .yes (c := ((x.2 : Int) == (0 : Int))) (d := true) rfl (fun v w h => h), fun h w => optUndef h, fun zβ za zw zc => ?_⟩, ?_⟩
         ·exact eql_4 rfl ((evt za 41).trans (optVal (zc.dep 4 41 (by kernel_rfl)) rfl zβ)) ((evt za 43).trans (optVal (zc.dep 6 43 (by kernel_rfl)) rfl zβ)) ⟨_, rfl, Below.refl _ _, optDef zβ rfl⟩
         refine ⟨⟨true, .none rfl, fun h w => optUndef h, fun zβ za zw zc => ?_⟩, ?_⟩
         ·exact wp_and rfl ((evt za 39).trans (optVal (zc.dep 2 39 (by kernel_rfl)) rfl rfl)) (fun hp => ((evt za 44).trans (optVal (zc.dep 7 44 (by kernel_rfl)) rfl (bMk zβ hp)))) ⟨_, rfl, Below.refl _ _, optDef zβ rfl⟩
         refine ⟨⟨true, .none rfl, fun h w => optUndef h, fun zβ za zw zc => ?_⟩, ?_⟩
         ·exact wp_move rfl ((evt za 45).trans (optVal (zc.dep 8 45 (by kernel_rfl)) rfl rfl)) ⟨_, rfl, Below.refl _ _, optDef zβ rfl⟩
         refine ⟨⟨_, .yes (c := (((x.2 : Int) == (0 : Int)) && ((lget l x.1).neg == (lget l i).neg))) (d := true) rfl (fun v w h => h), fun h w => optUndef h, fun zβ za zw zc => ?_⟩, ?_⟩
         ·exact ld_60 rfl (zc.kn.ev rfl) (bkeeps zc.below _ _ ((hB148.cell 0).trans rfl)) (bkeeps zc.below _ _ ((hB148.cell 1).trans rfl)) (bkeeps zc.below _ _ ((hB148.cell 2).trans rfl)) (bkeeps zc.below _ _ ((hB148.cell 3).trans rfl)) (bkeeps zc.below _ _ ((hB148.cell 4).trans rfl)) ⟨_, rfl, Below.refl _ _, optDef zβ rfl⟩
         refine ⟨⟨_, .yes (c := (((x.2 : Int) == (0 : Int)) && ((lget l x.1).neg == (lget l i).neg))) (d := true) rfl (fun v w h => h), fun h w => optUndef h, fun zβ za zw zc => ?_⟩, ?_⟩
         ·exact ld_60 rfl (zc.kn.ev rfl) (bkeeps zc.below _ _ ((hB155.cell 0).trans rfl)) (bkeeps zc.below _ _ ((hB155.cell 1).trans rfl)) (bkeeps zc.below _ _ ((hB155.cell 2).trans rfl)) (bkeeps zc.below _ _ ((hB155.cell 3).trans rfl)) (bkeeps zc.below _ _ ((hB155.cell 4).trans rfl)) ⟨_, rfl, Below.refl _ _, optDef zβ rfl⟩
         refine ⟨⟨_, .yes (c := (((x.2 : Int) == (0 : Int)) && ((lget l x.1).neg == (lget l i).neg))) (d := true) rfl (fun v w h => h), fun h w => optUndef h, fun zβ za zw zc => ?_⟩, ?_⟩
         ·exact wp_call (by kernel_rfl) rfl (hv2 ((evt za 47).trans (optVal (zc.dep 10 47 (by kernel_rfl)) rfl zβ)) ((evt za 48).trans (optVal (zc.dep 11 48 (by kernel_rfl)) rfl zβ))) (tsame_any (lget l x.1) (lget l i) _ _ _ (isLi_mk (IsT.below (bstep hb151 zc.below) (InT.isT (hc31 x.1 (by first | omega | (have zz := zβ; simp only [Bool.and_eq_true, Bool.or_eq_true, Bool.true_and, Bool.not_eq_true', Bool.or_eq_false_iff, Bool.and_eq_false_iff, beq_eq_false_iff_ne, ne_eq, beq_iff_eq, decide_eq_true_eq, decide_eq_false_iff_not, bne_iff_ne, bne_eq_false_iff_eq] at zz; omega))).2.2.2.2.2.1)) (IsT.below (bstep hb151 zc.below) (InT.isT (hc31 x.1 (by first | omega | (have zz := zβ; simp only [Bool.and_eq_true, Bool.or_eq_true, Bool.true_and, Bool.not_eq_true', Bool.or_eq_false_iff, Bool.and_eq_false_iff, beq_eq_false_iff_ne, ne_eq, beq_iff_eq, decide_eq_true_eq, decide_eq_false_iff_not, bne_iff_ne, bne_eq_false_iff_eq] at zz; omega))).2.2.2.2.2.2))) (isLi_mk (IsT.below (bstep hb151 zc.below) (InT.isT (hc31 i (by first | omega | (have zz := zβ; simp only [Bool.and_eq_true, Bool.or_eq_true, Bool.true_and, Bool.not_eq_true', Bool.or_eq_false_iff, Bool.and_eq_false_iff, beq_eq_false_iff_ne, ne_eq, beq_iff_eq, decide_eq_true_eq, decide_eq_false_iff_not, bne_iff_ne, bne_eq_false_iff_eq] at zz; omega))).2.2.2.2.2.1)) (IsT.below (bstep hb151 zc.below) (InT.isT (hc31 i (by first | omega | (have zz := zβ; simp only [Bool.and_eq_true, Bool.or_eq_true, Bool.true_and, Bool.not_eq_true', Bool.or_eq_false_iff, Bool.and_eq_false_iff, beq_eq_false_iff_ne, ne_eq, beq_iff_eq, decide_eq_true_eq, decide_eq_false_iff_not, bne_iff_ne, bne_eq_false_iff_eq] at zz; omega))).2.2.2.2.2.2)))) (fun v w' h => ⟨v, rfl, h.2, optDef zβ h.1⟩)
         refine ⟨⟨true, .none rfl, fun h w => optUndef h, fun zβ za zw zc => ?_⟩, ?_⟩
         ·exact wp_and rfl ((evt za 46).trans (optVal (zc.dep 9 46 (by kernel_rfl)) rfl rfl)) (fun hp => ((evt za 49).trans (optVal (zc.dep 12 49 (by kernel_rfl)) rfl (bMk zβ hp)))) ⟨_, rfl, Below.refl _ _, optDef zβ rfl⟩
         exact trivial
        ·intro za w157 zh hb158 zu
         have zh := zh.cons (d := 50) (v := .bool (((((x.2 : Int) == (0 : Int)) && ((lget l x.1).neg == (lget l i).neg)) && (sides (lget l x.1) (lget l i))))) (optVal (zu 13 50 (by kernel_rfl)) rfl rfl)
         clear zu
         refine WE.go zh ?_
         refine WE.next ?_
         refine WC.cond rfl (fun h159 => ?_) (fun h159 => ?_)
         ·have h159 : (((x.2 : Int) = (0 : Int)) ∧ ((lget l x.1).neg = (lget l i).neg)) ∧ ((sides (lget l x.1) (lget l i)) = true) := by simpa using h159
          refine WC.region (WL.asg rfl rfl rfl rfl rfl (WL.nil (WE.blockNormal (WE.next (WC.region ?_)))))
          refine WL.val (.int .i64 ((((x.1 + 1) : Nat) : Int))) rfl rfl rfl (fun za zC zh zk => addb_3 rfl (zh.ev rfl) (zh.ev rfl) (wrap_eq (by omega) (by omega) (by omega)) zk) ?_
          refine WL.mv rfl rfl rfl rfl rfl (WL.nil ?_)
          have hz50 : x.2 = 0 ∧ dropPair l i x.1 = true := by
           have z : x.2 = 0 ∧ (lget l x.1).neg = (lget l i).neg ∧ sides (lget l x.1) (lget l i) = true := by simpa [and_assoc] using h159
           exact ⟨z.1, by unfold dropPair; rw [Bool.and_eq_true, beq_iff_eq]; exact z.2⟩
          refine WE.round ((x.1 + 1, 7)) ⟨rfl, rfl, rfl, rfl, rfl, rfl, rfl, rfl, rfl, rfl, rfl, rfl, rfl, rfl, trivial⟩ ?_ ?_
          ·have hb160 : Below w.heap.size w w157 := (bstep hb151 hb158)
           have hB161 := hB153.below hb158
           have hB162 := hB155.below hb158
           exact ⟨by (try dsimp only at *); omega, ⟨fun z => by have z9 : (7 : Int) = 0 := z; exact absurd z9 (by decide), fun z => by have z1 := z.2 x.1 (by omega); rw [hz50.2] at z1; cases z1⟩, fun _ => by unfold dropR; rw [if_neg (by rw [(hp.1 hz50.1).1]; decide)], hb160, hB161, hB162⟩
          ·dsimp only; omega
         ·have h159 : ¬ ((((x.2 : Int) = (0 : Int)) ∧ ((lget l x.1).neg = (lget l i).neg)) ∧ ((sides (lget l x.1) (lget l i)) = true)) := by simpa using h159
          refine WC.skip (WE.blockNormal (WE.next (WC.region ?_)))
          refine WL.val (.int .i64 ((((x.1 + 1) : Nat) : Int))) rfl rfl rfl (fun za zC zh zk => addb_3 rfl (zh.ev rfl) (zh.ev rfl) (wrap_eq (by omega) (by omega) (by omega)) zk) ?_
          refine WL.mv rfl rfl rfl rfl rfl (WL.nil ?_)
          have hz50 : ¬ (x.2 = 0 ∧ dropPair l i x.1 = true) := by
           rintro ⟨z1, z2⟩
           have z := h159
           unfold dropPair at z2; rw [Bool.and_eq_true, beq_iff_eq] at z2
           simp [z1, z2.1, z2.2] at z
          refine WE.round ((x.1 + 1, x.2)) ⟨rfl, rfl, rfl, rfl, rfl, rfl, rfl, rfl, rfl, rfl, rfl, rfl, rfl, rfl, trivial⟩ ?_ ?_
          ·have hb163 : Below w.heap.size w w157 := (bstep hb151 hb158)
           have hB164 := hB153.below hb158
           have hB165 := hB155.below hb158
           exact ⟨by (try dsimp only at *); omega, ⟨fun z => ⟨(hp.1 z).1, fun q hq => by
              by_cases e : q = x.1
              ·rw [e, Bool.eq_false_iff]; exact fun z2 => hz50 ⟨z, z2⟩
              ·exact (hp.1 z).2 q (by omega)⟩, fun z => hp.2 ⟨z.1, fun q hq => z.2 q (by omega)⟩⟩, hrr, hb163, hB164, hB165⟩
          ·dsimp only; omega
       ·have h136 : ¬ ((((x.1 : Nat) : Int) : Int) < (((i : Nat) : Int) : Int)) := by simpa using h136
        refine WC.exit (WE.thenExit (WE.thenExit (WE.blockIs rfl (WE.next (WC.seq (WC.region (WL.mv rfl rfl rfl rfl rfl ?_)))))))
        refine WL.val (.bool (((x.2 : Int) != (0 : Int)))) rfl rfl rfl (fun za zC zh zk => neq_35 rfl (zh.ev rfl) (zh.ev rfl) zk) ?_
        refine WL.nil (WE.next ?_)
        refine WC.cond rfl (fun h166 => ?_) (fun h166 => ?_)
        ·have h166 : (x.2 : Int) ≠ (0 : Int) := by simpa using h166
         refine WC.seq (WC.region (WL.mv rfl rfl rfl rfl rfl ?_))
         refine WL.step (post := NewRow w129 3 #[.int .i64 0] 1) rfl rfl rfl (fun za zC zh zk => row_36_1 rfl (zh.ev rfl) (zk _ _ (newRow _ _ _ _))) ?_
         rintro _ w167 ⟨g168, rfl, hg169, hB170, hb171, hz172⟩
         have hl173 : g2 < g168 := by have z1 := hB134.lt; omega
         have hl174 : g33 < g168 := by have z1 := hB135.lt; omega
         have hl175 : w.heap.size ≤ g168 := by have z2 := (hb133).size; omega
         refine WL.mv rfl rfl rfl rfl rfl ?_
         refine WL.step (post := NewRow w167 3 #[.int .i64 (((i : Nat) : Int))] 1) rfl rfl rfl (fun za zC zh zk => row_36_1 rfl (zh.ev rfl) (zk _ _ (newRow _ _ _ _))) ?_
         rintro _ w176 ⟨g177, rfl, hg178, hB179, hb180, hz181⟩
         have hl182 : g2 < g177 := by have z1 := hB134.lt; have z2 := (hb171).size; omega
         have hl183 : g33 < g177 := by have z1 := hB135.lt; have z2 := (hb171).size; omega
         have hl184 : g168 < g177 := by have z1 := hB170.lt; omega
         have hb185 : Below w.heap.size w w167 := (bstep hb133 hb171)
         have hl186 : w.heap.size ≤ g177 := by have z2 := (hb185).size; omega
         refine WL.mv rfl rfl rfl rfl rfl (WL.mv rfl rfl rfl rfl rfl ?_)
         have hb188 : Below w129.heap.size w129 w176 := (bstep hb171 hb180)
         have hB187 := hB134.below hb188
         have hb189 : Below w.heap.size w w176 := (bstep hb133 hb188)
         refine WL.call rfl rfl rfl (fun za zh zC => wp_call (by kernel_rfl) rfl (hv2 (zh.ev rfl) (zh.ev rfl))) (without_any l i (by omega) _ _ _ (h.below hb189) hlen) ?_
         rintro _ w190 ⟨⟨p9, c9, rfl, hN9⟩, hb9⟩
         refine WL.val (.agg #[.int .i64 x.2, .slice ((some ⟨g168, 0, none⟩)) 1 1, .slice ((some ⟨g177, 0, none⟩)) 1 1, .slice none 0 0, .slice none 0 0, .slice p9 ((l.eraseIdx i).length) c9]) rfl rfl rfl (fun za zC zh zk => build_40_0_1_2_5 rfl (zh.ev rfl) (zh.ev rfl) (zh.ev rfl) (zh.ev rfl) zk) ?_
         have hB191 := hB187.below hb9
         refine WL.step (post := fun _ w' => Upd g2 w190 w' ∧ Blk w' g2 40 #[.int .i64 x.2, .slice ((some ⟨g168, 0, none⟩)) 1 1, .slice ((some ⟨g177, 0, none⟩)) 1 1, .slice none 0 0, .slice none 0 0, .slice p9 ((l.eraseIdx i).length) c9]) rfl rfl rfl (fun za zC zh zk => st_40 rfl (zh.ev rfl) (zh.ev rfl) rfl rfl rfl rfl rfl rfl hB191 (by first | decide | simp) (fun v => zk v _ ⟨(((((Upd.at_ _ _ _ _).trans (Upd.at_ _ _ _ _)).trans (Upd.at_ _ _ _ _)).trans (Upd.at_ _ _ _ _)).trans (Upd.at_ _ _ _ _)).trans (Upd.at_ _ _ _ _), (((((hB191.set_ 0 _).set_ 1 _).set_ 2 _).set_ 3 _).set_ 4 _).set_ 5 _⟩)) ?_
         rintro v195 w192 ⟨hu193, hB194⟩
         have hb196 : Below w.heap.size w w190 := (bstep hb189 hb9)
         have hb197 := upd_below hb196 hu193 (by omega)
         have hb199 : Below w129.heap.size w129 w190 := (bstep hb188 hb9)
         have hB198 := hB135.below hb199
         have hB200 := upd_blk hB198 hu193 (by omega)
         have hb202 : Below w167.heap.size w167 w190 := (bstep hb180 hb9)
         have hB201 := hB170.below hb202
         have hB203 := upd_blk hB201 hu193 (by omega)
         have hB204 := hB179.below hb9
         have hB205 := upd_blk hB204 hu193 (by omega)
         refine WL.asg rfl rfl rfl rfl rfl (WL.nil (WE.next (WC.ret (WE.blockRet (WE.thenRet (WE.thenRet (WE.blockRet (WE.thenRet ?_))))))))
         refine WE.retAny (v := .tuple #[.agg #[.int .i64 x.2, .slice ((some ⟨g168, 0, none⟩)) 1 1, .slice ((some ⟨g177, 0, none⟩)) 1 1, .slice none 0 0, .slice none 0 0, .slice p9 ((l.eraseIdx i).length) c9], .bool true]) (fun za zh => ?_) ?_
         ·have z0 : za.tmps[2]?.getD undef = .pointer (some ⟨g2, 0, none⟩) := by rw [← Array.getD_eq_getD_getElem?]; exact zh.knows 2 _ rfl
          have y0_0 : w192.cell? ⟨g2, 0, none⟩ = some (.int .i64 x.2) := ((hB194.cell 0).trans rfl)
          have y0_1 : w192.cell? ⟨g2, 1, none⟩ = some (.slice ((some ⟨g168, 0, none⟩)) 1 1) := ((hB194.cell 1).trans rfl)
          have y0_2 : w192.cell? ⟨g2, 2, none⟩ = some (.slice ((some ⟨g177, 0, none⟩)) 1 1) := ((hB194.cell 2).trans rfl)
          have y0_3 : w192.cell? ⟨g2, 3, none⟩ = some (.slice none 0 0) := ((hB194.cell 3).trans rfl)
          have y0_4 : w192.cell? ⟨g2, 4, none⟩ = some (.slice none 0 0) := ((hB194.cell 4).trans rfl)
          have y0_5 : w192.cell? ⟨g2, 5, none⟩ = some (.slice p9 ((l.eraseIdx i).length) c9) := ((hB194.cell 5).trans rfl)
          have z1 : za.tmps[3]?.getD undef = .bool true := by rw [← Array.getD_eq_getD_getElem?]; exact zh.knows 3 _ rfl
          simp [results, Try.results11, z0, y0_0, y0_1, y0_2, y0_3, y0_4, y0_5, z1, go_sem]
         ·have hz53 : ¬ x.2 = 0 := by have z := h166; simpa using z
          have hki : x.1 = i := by (try dsimp only at *); omega
          have hto : dropAt l i = true := by
           cases z : dropAt l i with
           | true => rfl
           | false =>
            exfalso; apply hz53; apply hp.2
            unfold dropAt at z
            rw [Bool.or_eq_false_iff, List.any_eq_false] at z
            exact ⟨z.1, fun q hq => by have z1 := z.2 q (List.mem_range.2 (by omega)); simpa using z1⟩
          have hf : clSmallB 1099511627776 l = true := by simpa using h10
          have hd : dropI l = some i := by unfold dropI; rw [if_pos hf, firstR_some (show i < l.length by omega) hall hto]
          have hs206 : Chg ((fun b => b = g2)) w190 w192 := (Chg.trans2 (Chg.refl ((fun b => b = g2)) _) (Chg.ofUpd (S := fun k => k = g2) hu193 rfl) (fun i h1 h2 => by first | exact h2 | exact .inl ⟨h2, h1⟩ | exact .inl h2 | exact .inr h2 | exact .inr (.inl h2) | exact .inr (.inr h2) | ((try dsimp only at *); omega)))
          exact ⟨_, rfl, by rw [hd, hrr hz53]; exact ⟨_, rfl, _, _, _, _, _, _, _, _, rfl, (hN9.chg hs206 (fun b hb e => by have z := hB187.lt; have z2 := ((Below.refl _ _ : Below 0 w176 w176)).size; (try dsimp only at *); omega)).older (hb189).size⟩, hb197⟩
        ·have h166 : ¬ ((x.2 : Int) ≠ (0 : Int)) := by simpa using h166
         refine WC.skip (WE.blockNormal (WE.next (WC.region ?_)))
         refine WL.val (.int .i64 ((((i + 1) : Nat) : Int))) rfl rfl rfl (fun za zC zh zk => addb_3 rfl (zh.ev rfl) (zh.ev rfl) (wrap_eq (by omega) (by omega) (by omega)) zk) ?_
         refine WL.mv rfl rfl rfl rfl rfl (WL.nil ?_)
         have hto : dropAt l i = false := by
          have z0 : x.2 = 0 := by have z := h166; simpa using z
          have z1 := hp.1 z0
          have hki : x.1 = i := by (try dsimp only at *); omega
          unfold dropAt; rw [z1.1, anyR_false (fun q hq => z1.2 q (by omega))]; rfl
         refine WE.round (i + 1) ⟨rfl, rfl, rfl, rfl, rfl, rfl, trivial⟩ ?_ ?_
         ·exact ⟨by omega, fun q hq => by
            by_cases e : q = i
            ·rw [e]; exact hto
            ·exact hall q (by omega), hb133, hB134⟩
         ·omega
   ·have h23 : ¬ ((((i : Nat) : Int) : Int) < (((l.length : Nat) : Int) : Int)) := by simpa using h23
    refine WC.exit (WE.thenExit (WE.thenExit (WE.blockIs rfl (WE.next (WC.seq (WC.region ?_))))))
    refine WL.val (.agg #[.int .i64 0, .slice none 0 0, .slice none 0 0, .slice none 0 0, .slice none 0 0, .slice none 0 0]) rfl rfl rfl (fun za zC zh zk => build_40_ rfl  zk) ?_
    refine WL.step (post := fun _ w' => Upd g2 w18 w' ∧ Blk w' g2 40 #[.int .i64 0, .slice none 0 0, .slice none 0 0, .slice none 0 0, .slice none 0 0, .slice none 0 0]) rfl rfl rfl (fun za zC zh zk => st_40 rfl (zh.ev rfl) (zh.ev rfl) rfl rfl rfl rfl rfl rfl hB22 (by first | decide | simp) (fun v => zk v _ ⟨(((((Upd.at_ _ _ _ _).trans (Upd.at_ _ _ _ _)).trans (Upd.at_ _ _ _ _)).trans (Upd.at_ _ _ _ _)).trans (Upd.at_ _ _ _ _)).trans (Upd.at_ _ _ _ _), (((((hB22.set_ 0 _).set_ 1 _).set_ 2 _).set_ 3 _).set_ 4 _).set_ 5 _⟩)) ?_
    rintro v210 w207 ⟨hu208, hB209⟩
    have hb211 := upd_below hb21 hu208 (by omega)
    refine WL.asg rfl rfl rfl rfl rfl (WL.nil (WE.next (WC.ret ?_)))
    refine WE.retAny (v := .tuple #[.agg #[.int .i64 0, .slice none 0 0, .slice none 0 0, .slice none 0 0, .slice none 0 0, .slice none 0 0], .bool false]) (fun za zh => ?_) ?_
    ·have z0 : za.tmps[2]?.getD undef = .pointer (some ⟨g2, 0, none⟩) := by rw [← Array.getD_eq_getD_getElem?]; exact zh.knows 2 _ rfl
     have y0_0 : w207.cell? ⟨g2, 0, none⟩ = some (.int .i64 0) := ((hB209.cell 0).trans rfl)
     have y0_1 : w207.cell? ⟨g2, 1, none⟩ = some (.slice none 0 0) := ((hB209.cell 1).trans rfl)
     have y0_2 : w207.cell? ⟨g2, 2, none⟩ = some (.slice none 0 0) := ((hB209.cell 2).trans rfl)
     have y0_3 : w207.cell? ⟨g2, 3, none⟩ = some (.slice none 0 0) := ((hB209.cell 3).trans rfl)
     have y0_4 : w207.cell? ⟨g2, 4, none⟩ = some (.slice none 0 0) := ((hB209.cell 4).trans rfl)
     have y0_5 : w207.cell? ⟨g2, 5, none⟩ = some (.slice none 0 0) := ((hB209.cell 5).trans rfl)
     have z1 : za.tmps[3]?.getD undef = .bool false := by rw [← Array.getD_eq_getD_getElem?]; exact zh.knows 3 _ rfl
     simp [results, Try.results11, z0, y0_0, y0_1, y0_2, y0_3, y0_4, y0_5, z1, go_sem]
    ·have hf : clSmallB 1099511627776 l = true := by simpa using h10
     have hd : dropI l = none := by unfold dropI; rw [if_pos hf, firstR_none (fun q hq => hall q (by omega))]
     exact ⟨_, rfl, by rw [hd]; rfl, hb211⟩
end Go.Proofs.Ytnmopmdpnpcdhaa

/- Is a literal cut? The program. -/
namespace Go.Proofs.Ytnmopmdpnpcdhaa
open Go.RowKit Go
set_option linter.unusedVariables false
set_option linter.unusedSimpArgs false
def Li.opp (x : Li) : Li := ⟨!x.neg, x.l, x.r⟩
def cutTu (c d : List Li) (i j : Nat) (tu : Bool) : Bool := lOk (lget c j).opp (lget d i) tu [] && (into d (c.eraseIdx j) ((List.replicate d.length false).set i true) (lTo (lget c j).opp (lget d i) tu []) 0).1
def cutsB (c d : List Li) (i j : Nat) : Bool := cutTu c d i j false || cutTu c d i j true
theorem URow.new {w : World} {b ty n : Nat} (h : Blk w b ty (madeCells (Value.cells (.bool false)) (n * 1))) : URow w b ty (List.replicate n false) := by
 unfold URow
 have e : madeCells (Value.cells (.bool false)) (n * 1) = ((List.replicate n false).map Value.bool).toArray := by
  apply Array.ext'
  rw [Nat.mul_one, List.map_replicate]
  exact toList_madeCells_one _ _
 rw [← e]; exact h
/-- The search as it is made, piece by piece. -/
def CutM (WS : World) (L : List Li) (n : Nat) (dv z : Value) (wz : World) : Prop := ∃ p c' gu gm C g, z = .pointer (some ⟨g, 0, none⟩) ∧ g ≠ gu ∧ WS.heap.size ≤ g ∧ WS.heap.size ≤ gu ∧ (∀ b, C b → WS.heap.size ≤ b ∧ b ≠ g ∧ b ≠ gu) ∧ InRow eltL (fun b => b ≠ g ∧ b ≠ gu ∧ ¬ C b) wz L p ∧ MatAt wz gm [] C ∧ URow wz gu 4 (List.replicate n false) ∧ Blk wz g 81 #[.slice p L.length c', dv, .slice (some ⟨gu, 0, none⟩) n n, .pointer (some ⟨gm, 0, none⟩), .int .i64 0]
theorem CutM.below {WS w w' : World} {L : List Li} {n : Nat} {dv z : Value} (h : CutM WS L n dv z w) (hb : Below w.heap.size w w') : CutM WS L n dv z w' := by
 obtain ⟨p, c, gu, gm, C, g, e, k1, k2, k3, k4, k5, k6, k7, k8⟩ := h
 exact ⟨p, c, gu, gm, C, g, e, k1, k2, k3, k4, k5.below hb, k6.below hb, k7.below hb, k8.below hb⟩
def CutG (WS : World) (L : List Li) (n : Nat) (dv : Value) (vals : List Value) (wz : World) : Prop := match vals with
 | [] => True
 | [z0] => ∃ p c', z0 = .slice p L.length c' ∧ NewC WS wz L p c'
 | [z0, z1] => ∃ p c' gm C w1, z0 = .slice p L.length c' ∧ z1 = .pointer (some ⟨gm, 0, none⟩) ∧ InRow eltL (fun b => WS.heap.size ≤ b ∧ b < w1) wz L p ∧ MatAt wz gm [] C ∧ WS.heap.size ≤ w1 ∧ ∀ b, C b → w1 ≤ b
 | [_, _, z2] => ∃ p c' gu gm C, z2 = .agg #[.slice p L.length c', dv, .slice (some ⟨gu, 0, none⟩) n n, .pointer (some ⟨gm, 0, none⟩), .int .i64 0] ∧ WS.heap.size ≤ gu ∧ InRow eltL (fun b => (WS.heap.size ≤ b ∧ ¬ C b) ∧ b ≠ gu) wz L p ∧ MatAt wz gm [] C ∧ (∀ b, C b → WS.heap.size ≤ b ∧ b ≠ gu) ∧ URow wz gu 4 (List.replicate n false)
 | [_, _, _, z3] => CutM WS L n dv z3 wz
 | [_, _, _, _, z4] => CutM WS L n dv z4 wz
 | _ => False
theorem CutG.below {WS : World} {L : List Li} {n : Nat} {dv : Value} (vals : List Value) (w w' : World) (hb : Below w.heap.size w w') (h : CutG WS L n dv vals w) : CutG WS L n dv vals w' := by
 match vals, h with
 | [], _ => exact trivial
 | [_], ⟨p, c, e, k⟩ => exact ⟨p, c, e, k.below hb⟩
 | [_, _], ⟨p, c, gm, C, w1, e0, e1, k, k2, k3⟩ => exact ⟨p, c, gm, C, w1, e0, e1, k.below hb, k2.below hb, k3⟩
 | [_, _, _], ⟨p, c, gu, gm, C, e0, k0, k, k2, k3, k4⟩ => exact ⟨p, c, gu, gm, C, e0, k0, k.below hb, k2.below hb, k3, k4.below hb⟩
 | [_, _, _, _], h => exact CutM.below h hb
 | [_, _, _, _, _], h => exact CutM.below h hb
set_option maxRecDepth 100000 in
theorem cuts_any (c d : List Li) (i j : Nat) (hi : i < d.length) (hj : j < c.length) (w : World) (ca da : Option Addr) (cc dc : Nat) (h : IsCl w c ca cc) (hd : IsCl w d da dc) (hz : ∀ x ∈ c, x.l.size ≤ 300 ∧ x.r.size ≤ 300) (hzd : ∀ x ∈ d, x.l.size ≤ 300 ∧ x.r.size ≤ 300) (hcn : c.length ≤ 20) (hdn : d.length ≤ 20) :
  Calls Try.prog 25 #[.slice ca c.length cc, .slice da d.length dc, .int .i64 (i : Int), .int .i64 (j : Int)] w (Ret fun v' w' => v' = .bool (cutsB c d i j) ∧ Below w.heap.size w w') := by
 have hel : (c.eraseIdx j).length = c.length - 1 := List.length_eraseIdx_of_lt hj
 have hz1 := hz _ (lget_mem hj)
 have hz2 := hzd _ (lget_mem hi)
 have hze : ∀ x ∈ c.eraseIdx j, x.l.size ≤ 300 ∧ x.r.size ≤ 300 := fun x hx => hz x (List.mem_of_mem_eraseIdx hx)
 have hcap := h.cap
 have hcap2 := hd.cap
 refine Calls.walk (l := [.slice ca c.length cc, .slice da d.length dc, .int .i64 (((i : Nat) : Int)), .int .i64 (((j : Nat) : Int))]) Try.func25 rfl (by kernel_rfl) ?_
 refine WC.sub (K' := [(0, .slice ca c.length cc), (1, .slice da d.length dc), (2, .int .i64 (((i : Nat) : Int))), (3, .int .i64 (((j : Nat) : Int)))]) ⟨rfl, rfl, rfl, rfl, trivial⟩ ?_
 refine WC.seq (WC.region (WL.asg rfl rfl rfl rfl rfl (WL.nil (WE.next (WC.seq (WC.region (WL.mv rfl rfl rfl rfl rfl (WL.mv rfl rfl rfl rfl rfl ?_))))))))
 obtain ⟨b1, o2, A3, C4, A5, C6, ha7, hc8⟩ := InRow.openL h.rows
 refine WL.val _ rfl rfl rfl (fun za zC zh zk => ix_29 (k := j) rfl (zh.ev rfl) (ha7 j (by first | omega | (simp; omega))) (zh.ev rfl) (by first | omega | (simp; omega)) zk) ?_
 refine WL.val _ rfl rfl rfl (fun za zC zh zk => ld_60 rfl (zh.ev rfl) (hc8 j (by first | omega | (simp; omega))).1 (hc8 j (by first | omega | (simp; omega))).2.1 (hc8 j (by first | omega | (simp; omega))).2.2.1 (hc8 j (by first | omega | (simp; omega))).2.2.2.1 (hc8 j (by first | omega | (simp; omega))).2.2.2.2.1 zk) ?_
 refine WL.step (post := NewBlk w 60 #[.bool false, .int .i64 0, .slice none 0 0, .int .i64 0, .slice none 0 0]) rfl rfl rfl (fun za zC zh zk => alloc_60 rfl (zk _ _ (newBlk _ _ _))) ?_
 rintro _ w9 ⟨g10, rfl, hg11, hB12, hb13, hz14⟩
 have hl15 : w.heap.size ≤ g10 := by omega
 refine WL.step (post := fun _ w' => Upd g10 w9 w' ∧ Blk w' g10 60 #[.bool ((lget c j).neg), .int .i64 ((lget c j).l.f), .slice ((A3 j)) ((lget c j).l.args.length) ((C4 j)), .int .i64 ((lget c j).r.f), .slice ((A5 j)) ((lget c j).r.args.length) ((C6 j))]) rfl rfl rfl (fun za zC zh zk => st_60 rfl (zh.ev rfl) (zh.ev rfl) rfl rfl rfl rfl rfl hB12 (by first | decide | simp) (fun v => zk v _ ⟨((((Upd.at_ _ _ _ _).trans (Upd.at_ _ _ _ _)).trans (Upd.at_ _ _ _ _)).trans (Upd.at_ _ _ _ _)).trans (Upd.at_ _ _ _ _), ((((hB12.set_ 0 _).set_ 1 _).set_ 2 _).set_ 3 _).set_ 4 _⟩)) ?_
 rintro v19 w16 ⟨hu17, hB18⟩
 have hb20 := upd_below hb13 hu17 (by omega)
 refine WL.nil (WE.next (WC.seq (WC.region ?_)))
 refine WL.val _ rfl rfl rfl (fun za zC zh zk => fld_60_0 rfl (zh.ev rfl) zk) ?_
 refine WL.val _ rfl rfl rfl (fun za zC zh zk => ld_4 rfl (zh.ev rfl) ((hB18.cell 0).trans rfl) zk) ?_
 refine WL.val (.bool ((!(lget c j).neg))) rfl rfl rfl (fun za zC zh zk => wp_not rfl (zh.ev rfl) zk) ?_
 refine WL.val _ rfl rfl rfl (fun za zC zh zk => fld_60_0 rfl (zh.ev rfl) zk) ?_
 refine WL.step (post := fun _ w' => Upd g10 w16 w' ∧ Blk w' g10 60 #[.bool ((!(lget c j).neg)), .int .i64 ((lget c j).l.f), .slice ((A3 j)) ((lget c j).l.args.length) ((C4 j)), .int .i64 ((lget c j).r.f), .slice ((A5 j)) ((lget c j).r.args.length) ((C6 j))]) rfl rfl rfl (fun za zC zh zk => st_4 rfl (zh.ev rfl) (zh.ev rfl) hB18 (by first | decide | simp) (fun v => zk v _ ⟨Upd.at_ _ _ _ _, hB18.set_ 0 _⟩)) ?_
 rintro v24 w21 ⟨hu22, hB23⟩
 have hb25 := upd_below hb20 hu22 (by omega)
 refine WL.nil (WE.next (WC.seq (WC.seq (WC.region ?_))))
 refine WL.val (.agg #[.bool false, .bool true]) rfl rfl rfl (fun za zC zh zk => build_76_0_1 rfl (zh.ev rfl) (zh.ev rfl) zk) ?_
 refine WL.mv rfl rfl rfl rfl rfl (WL.nil (WE.next (WC.block ?_)))
 refine WC.loop (X := Nat) (fun k => 2 - k) (fun k => [(0, .slice ca c.length cc), (1, .slice da d.length dc), (2, .int .i64 (((i : Nat) : Int))), (3, .int .i64 (((j : Nat) : Int))), (9, .pointer (some ⟨g10, 0, none⟩)), (21, .agg #[.bool false, .bool true]), (22, .int .i64 (((k : Nat) : Int)))]) (fun k w26 => k ≤ 2 ∧ (∀ q, q < k → cutTu c d i j (bif decide (q = 0) then false else true) = false) ∧ Below w.heap.size w w26 ∧ Blk w26 g10 60 #[.bool ((!(lget c j).neg)), .int .i64 ((lget c j).l.f), .slice ((A3 j)) ((lget c j).l.args.length) ((C4 j)), .int .i64 ((lget c j).r.f), .slice ((A5 j)) ((lget c j).r.args.length) ((C6 j))]) 0 ⟨rfl, rfl, rfl, rfl, rfl, rfl, rfl, trivial⟩ ?_ ?_
 ·exact ⟨Nat.zero_le _, fun q h => absurd h (Nat.not_lt_zero q), hb25, hB23⟩
 ·rintro k w26 ⟨hk, hall, hb27, hB28⟩
  refine WC.seq (WC.region ?_)
  refine WL.val (.bool ((decide ((((k : Nat) : Int) : Int) < (2 : Int))))) rfl rfl rfl (fun za zC zh zk => lss_3 rfl (zh.ev rfl) (zh.ev rfl) zk) ?_
  refine WL.nil (WE.next (WC.seq ?_))
  refine WC.cond rfl (fun h29 => ?_) (fun h29 => ?_)
  ·have h29 : (((k : Nat) : Int) : Int) < (2 : Int) := by simpa using h29
   refine WC.skip (WE.next (WC.seq (WC.block (WC.seq (WC.region ?_)))))
   refine WL.val (.bool ((bif decide (k = 0) then false else true))) rfl rfl rfl (fun za zC zh zk => aix_76 (k := k) rfl (zh.ev rfl) (zh.ev rfl) (by first | omega | (simp; omega)) zk) ?_
   refine WL.asg rfl rfl rfl rfl rfl (WL.nil (WE.next (WC.seq ?_)))
   have hd6 : IsLs w26 d da := (hd.rows.below hb27)
   have hgx6 : g10 < w26.heap.size := hB28.lt
   refine WC.seqV (S := ((fun b => b < 0))) [(true, .val (.slice ca c.length cc)), (true, .val (.int .i64 (((j : Nat) : Int)))), (true, .val undef), (true, .val (.slice da d.length dc)), (true, .val (.slice da d.length dc)), (true, .val (.int .i64 (((d.length : Nat) : Int)))), (true, .mem (fun v w' => ∃ gu, v = .slice (some ⟨gu, 0, none⟩) d.length d.length ∧ w26.heap.size ≤ gu ∧ URow w' gu 4 (List.replicate d.length false)) (fun v w w' hc h => by obtain ⟨gu, e, k1, k2⟩ := h; exact ⟨gu, e, k1, k2.below (Chg.toBelow hc)⟩)), (true, .val undef), (true, .val undef), (true, .val undef), (true, .val undef)] [(0, .slice ca c.length cc), (1, .slice da d.length dc), (2, .int .i64 (((i : Nat) : Int))), (3, .int .i64 (((j : Nat) : Int))), (9, .pointer (some ⟨g10, 0, none⟩)), (11, .bool ((bif decide (k = 0) then false else true))), (21, .agg #[.bool false, .bool true]), (22, .int .i64 (((k : Nat) : Int))), (23, .bool ((decide ((((k : Nat) : Int) : Int) < (2 : Int)))))] [2, 7, 8, 9, 10] [none, none, none, none, none] (CutG w26 (c.eraseIdx j) d.length (.slice da d.length dc)) CutG.below (by decide) ⟨rfl, rfl, rfl, rfl, rfl, rfl, rfl, rfl, rfl, trivial⟩ (by kernel_rfl) (by kernel_rfl) (by kernel_rfl) (by kernel_rfl) trivial ?_ ?_
   ·refine ⟨.inl ⟨rfl, true, .none rfl, (fun gg b h => by cases h), fun h w => optUndef h, fun zβ za zw zc => ?_⟩, ?_⟩
    ·exact wp_move rfl (zc.kn.ev rfl) ⟨_, rfl, Below.refl _ _, optDef zβ rfl⟩
    refine ⟨.inl ⟨rfl, true, .none rfl, (fun gg b h => by cases h), fun h w => optUndef h, fun zβ za zw zc => ?_⟩, ?_⟩
    ·exact wp_move rfl (zc.kn.ev rfl) ⟨_, rfl, Below.refl _ _, optDef zβ rfl⟩
    refine ⟨.inr ⟨0, rfl, by kernel_rfl, true, .none rfl, (fun gg b h => by cases h), (fun h => (nomatch h)), fun zβ za zw zvals zc => ?_⟩, ?_⟩
    ·obtain rfl := vlen0 zc.len
     have zn := zc.now
     exact wp_call (by kernel_rfl) rfl (hv2 ((evt za 25).trans (optSVal (zc.dep 0 25 (by kernel_rfl) (by decide)) rfl rfl)) ((evt za 26).trans (optSVal (zc.dep 1 26 (by kernel_rfl) (by decide)) rfl rfl))) (without_any c j hj _ _ _ (h.below (bstep hb27 (Chg.toBelow zc.chg))) (by omega)) (fun v w' h => by obtain ⟨⟨p, c2, e2, k4⟩, k5⟩ := h; exact ⟨v, rfl, .ofBelow k5, ⟨p, c2, e2, k4.older zc.chg.size⟩, cvNo⟩)
    refine ⟨.inl ⟨rfl, true, .none rfl, (fun gg b h => by cases h), fun h w => optUndef h, fun zβ za zw zc => ?_⟩, ?_⟩
    ·exact wp_move rfl (zc.kn.ev rfl) ⟨_, rfl, Below.refl _ _, optDef zβ rfl⟩
    refine ⟨.inl ⟨rfl, true, .none rfl, (fun gg b h => by cases h), fun h w => optUndef h, fun zβ za zw zc => ?_⟩, ?_⟩
    ·exact wp_move rfl (zc.kn.ev rfl) ⟨_, rfl, Below.refl _ _, optDef zβ rfl⟩
    refine ⟨.inl ⟨rfl, true, .none rfl, (fun gg b h => by cases h), fun h w => optUndef h, fun zβ za zw zc => ?_⟩, ?_⟩
    ·exact len_29 rfl ((evt za 29).trans (optSVal (zc.dep 4 29 (by kernel_rfl) (by decide)) rfl rfl)) ⟨_, rfl, Below.refl _ _, optDef zβ rfl⟩
    refine ⟨.inl ⟨rfl, true, .none rfl, (fun gg b h => by cases h), fun h w => optUndef h, fun zβ za zw zc => ?_⟩, ?_⟩
    ·exact wp_mkE (z := .bool false) (size := 1) (bytes := 1) Try.underlying37 (by kernel_rfl) (by decide) rfl ((evt za 30).trans (optSVal (zc.dep 5 30 (by kernel_rfl) (by decide)) rfl rfl)) ((evt za 30).trans (optSVal (zc.dep 5 30 (by kernel_rfl) (by decide)) rfl rfl)) (by omega) ⟨_, rfl, balloc _ _, optDef zβ ⟨_, rfl, zc.chg.size, URow.new (Blk.new' rfl)⟩⟩
    refine ⟨.inr ⟨1, rfl, by kernel_rfl, true, .none rfl, (fun gg b h => by cases h), (fun h => (nomatch h)), fun zβ za zw zvals zc => ?_⟩, ?_⟩
    ·obtain ⟨z0, rfl⟩ := vlen1 zc.len
     have zn := zc.now
     obtain ⟨p, c2, rfl, k1⟩ := zn
     have hzs := zc.chg.size
     exact wp_call (by kernel_rfl) rfl (hv0) (new_any _) (fun v w' h => by obtain ⟨⟨gm, C, rfl, k2, k3⟩, k4⟩ := h; exact ⟨_, rfl, .ofBelow k4, ⟨p, c2, gm, C, zw.heap.size, rfl, rfl, (k1.1.mono (by decide) (fun b q hb => ⟨q, hb⟩)).below k4, k2, hzs, k3⟩, cvNo⟩)
    refine ⟨.inr ⟨2, rfl, by kernel_rfl, true, .none rfl, (fun gg b h => by cases h), (fun h => (nomatch h)), fun zβ za zw zvals zc => ?_⟩, ?_⟩
    ·obtain ⟨z0, z1, rfl⟩ := vlen2 zc.len
     have zn := zc.now
     obtain ⟨p, c2, gm, C, w1, e0v, e1v, k1, k2, k3, k4⟩ := zn
     obtain ⟨gu, e31, k5, k6⟩ := (optSMem (zc.dep 6 31 (by kernel_rfl) (by decide)) rfl rfl)
     have e0 : z0 = za.tmps.getD 27 undef := Option.some.inj (zc.val 0 2 27 rfl (by kernel_rfl))
     have e1 : z1 = za.tmps.getD 32 undef := Option.some.inj (zc.val 1 7 32 rfl (by kernel_rfl))
     exact build_81_0_1_2_3 rfl ((evt za 27).trans (e0.symm.trans e0v)) ((evt za 28).trans (optSVal (zc.dep 3 28 (by kernel_rfl) (by decide)) rfl rfl)) ((evt za 31).trans e31) ((evt za 32).trans (e1.symm.trans e1v)) ⟨_, rfl, .ofBelow (Below.refl _ _), ⟨p, c2, gu, gm, fun b => C b ∧ b ≠ gu, rfl, k5, (k1.mono (S' := fun b => w26.heap.size ≤ b ∧ ¬ (C b ∧ b ≠ gu)) (by decide) (fun b q _ => ⟨q.1, fun q2 => by have z := k4 b q2.1; omega⟩)).apartU k6, k2.apartU k6, fun b q => ⟨by have z := k4 b q.1; omega, q.2⟩, k6⟩, cvNo⟩
    refine ⟨.inr ⟨3, rfl, by kernel_rfl, true, .none rfl, (fun gg b h => by cases h), (fun h => (nomatch h)), fun zβ za zw zvals zc => ?_⟩, ?_⟩
    ·obtain ⟨z0, z1, z2, rfl⟩ := vlen3 zc.len
     have zn := zc.now
     obtain ⟨p, c2, gu, gm, C, e2v, k5, k1, k2, k3, k6⟩ := zn
     have e2 : z2 = za.tmps.getD 33 undef := Option.some.inj (zc.val 2 8 33 rfl (by kernel_rfl))
     have hul := Blk.lt k6
     have hzs := zc.chg.size
     exact box_81 rfl ((evt za 33).trans (e2.symm.trans e2v)) ⟨_, rfl, .ofBelow (balloc _ _), ⟨p, c2, gu, gm, C, zw.heap.size, rfl, by omega, hzs, k5, fun b q => ⟨(k3 b q).1, by have z := k2.clt b q; omega, (k3 b q).2⟩, (k1.mono (S' := fun b => b ≠ zw.heap.size ∧ b ≠ gu ∧ ¬ C b) (by decide) (fun b q hb => ⟨by omega, q.2, q.1.2⟩)).below (balloc _ _), k2.below (balloc _ _), k6.below (balloc _ _), Blk.new' rfl⟩, cvNo⟩
    refine ⟨.inr ⟨4, rfl, by kernel_rfl, true, .none rfl, (fun gg b h => by cases h), (fun h => (nomatch h)), fun zβ za zw zvals zc => ?_⟩, ?_⟩
    ·obtain ⟨z0, z1, z2, z3, rfl⟩ := vlen4 zc.len
     have zn := zc.now
     obtain ⟨p, c2, gu, gm, C, g, e3v, k1⟩ := zn
     have e3 : z3 = za.tmps.getD 34 undef := Option.some.inj (zc.val 3 9 34 rfl (by kernel_rfl))
     exact wp_assign rfl ((evt za 34).trans (e3.symm.trans e3v)) ⟨_, rfl, .ofBelow (Below.refl _ _), ⟨p, c2, gu, gm, C, g, rfl, k1⟩, cvNo⟩
    exact trivial
   ·intro za w30 zvals zh zl hG31 hc32 zu zw zk
    obtain ⟨z0, z1, z2, z3, z4, rfl⟩ := vlen5 zl
    obtain ⟨p9, c9, gu9, gm9, C9, g9, e9, k91, k92, k93, k94, k95, k96, k97, k98⟩ := hG31
    have zh := zh.cons (d := 12) (v := .pointer (some ⟨g9, 0, none⟩)) ((Option.some.inj (zw 4 10 12 rfl (by kernel_rfl))).symm.trans e9)
    have hb33 := Chg.toBelow hc32
    have hB34 := hB28.below hb33
    have hz69 := (hb33).size
    have hff9 : ∀ b, FF w30 C9 g9 gu9 b → w26.heap.size ≤ b := by
     rintro b (e | e | e | e)
     ·rw [e]; exact k92
     ·rw [e]; exact k93
     ·exact (k94 b e).1
     ·omega
    have hcl9 : InRow eltL (fun b => ¬ FF w30 C9 g9 gu9 b) w30 (c.eraseIdx j) p9 := k95.mono (by decide) (fun b q hb e => by
     rcases e with e | e | e | e
     ·exact q.1 e
     ·exact q.2.1 e
     ·exact q.2.2 e
     ·omega)
    have hdl9 : InRow eltL (fun b => ¬ FF w30 C9 g9 gu9 b) w30 d da := ((hd6.mono (S' := fun b => b < w26.heap.size) (by decide) (fun b _ hb => hb)).below hb33).mono (by decide) (fun b q _ e => by have z := hff9 b e; omega)
    have hgo9 : MatG w30 C9 g9 gu9 gm9 [] w30 := ⟨C9, k96, fun b q => ⟨.inl q, (k94 b q).2⟩⟩
    have hnw9 : Now w30 C9 g9 gu9 w30 := Chg.refl _ _
    clear zu zw zk
    refine WE.go zh ?_
    refine WE.next (WC.seq (WC.region (WL.mv rfl rfl rfl rfl rfl ?_)))
    refine WL.val _ rfl rfl rfl (fun za zC zh zk => nilCheck_ rfl (zh.ev rfl) zk) ?_
    refine WL.val _ rfl rfl rfl (fun za zC zh zk => fld_81_2 rfl (zh.ev rfl) zk) ?_
    refine WL.val _ rfl rfl rfl (fun za zC zh zk => ld_37 rfl (zh.ev rfl) ((k98.cell 2).trans rfl) zk) ?_
    refine WL.mv rfl rfl rfl rfl rfl ?_
    refine WL.val _ rfl rfl rfl (fun za zC zh zk => ix_37 (k := i) rfl (zh.ev rfl) rfl (zh.ev rfl) (by first | omega | (simp; omega)) zk) ?_
    refine WL.step (post := fun _ w' => Upd gu9 w30 w' ∧ URow w' gu9 4 ((List.replicate d.length false).set i true)) rfl rfl rfl (fun za zC zh zk => st_4 rfl (zh.ev rfl) (zh.ev rfl) k97 (by simp; omega) (fun v => zk v _ ⟨Upd.at_ _ _ _ _, URow.set0 k97 true (by simp; omega)⟩)) ?_
    rintro v38 w35 ⟨hu36, hU37⟩
    have hb41 : Below w.heap.size w w30 := (bstep hb27 hb33)
    have hb42 := upd_below hb41 hu36 (by omega)
    have hB43 := upd_blk hB34 hu36 (by omega)
    have hB44 := upd_blk k98 hu36 (by omega)
    have hgo39 := MatG.chg hgo9 (Chg.ofUpd (S := fun b => b = gu9) hu36 rfl) (fun b q e => q.2.2 e)
    have hw40 := Now.chg hnw9 (Chg.ofUpd (S := fun b => b = gu9) hu36 rfl) (fun b e => .inr (.inl e))
    refine WL.nil (WE.next (WC.seq ?_))
    have hwl9 : w30.heap.size ≤ w35.heap.size := Chg.size hw40
    have hgl9 := hB44.lt
    have hul9 := Blk.lt hU37
    have h069 := (hb27).size
    have hGV9 : ∀ (vals : List Value) (wa wb : World), Below wa.heap.size wa wb → (fun vs wz => match vs with | [] => MatG w30 C9 g9 gu9 gm9 [] wz ∧ URow wz gu9 4 ((List.replicate d.length false).set i true) ∧ Blk wz g9 81 #[.slice p9 ((c.eraseIdx j).length) c9, .slice da d.length dc, .slice ((some ⟨gu9, 0, none⟩)) d.length d.length, .pointer (some ⟨gm9, 0, none⟩), .int .i64 0] ∧ Now w30 C9 g9 gu9 wz | [_] => MatG w30 C9 g9 gu9 gm9 (lTo (lget c j).opp (lget d i) (bif decide (k = 0) then false else true) []) wz ∧ URow wz gu9 4 ((List.replicate d.length false).set i true) ∧ Blk wz g9 81 #[.slice p9 ((c.eraseIdx j).length) c9, .slice da d.length dc, .slice ((some ⟨gu9, 0, none⟩)) d.length d.length, .pointer (some ⟨gm9, 0, none⟩), .int .i64 0] ∧ Now w30 C9 g9 gu9 wz | _ => True) vals wa → (fun vs wz => match vs with | [] => MatG w30 C9 g9 gu9 gm9 [] wz ∧ URow wz gu9 4 ((List.replicate d.length false).set i true) ∧ Blk wz g9 81 #[.slice p9 ((c.eraseIdx j).length) c9, .slice da d.length dc, .slice ((some ⟨gu9, 0, none⟩)) d.length d.length, .pointer (some ⟨gm9, 0, none⟩), .int .i64 0] ∧ Now w30 C9 g9 gu9 wz | [_] => MatG w30 C9 g9 gu9 gm9 (lTo (lget c j).opp (lget d i) (bif decide (k = 0) then false else true) []) wz ∧ URow wz gu9 4 ((List.replicate d.length false).set i true) ∧ Blk wz g9 81 #[.slice p9 ((c.eraseIdx j).length) c9, .slice da d.length dc, .slice ((some ⟨gu9, 0, none⟩)) d.length d.length, .pointer (some ⟨gm9, 0, none⟩), .int .i64 0] ∧ Now w30 C9 g9 gu9 wz | _ => True) vals wb := by
     intro vals wa wb hb h
     match vals, h with
     | [], h => exact ⟨h.1.below hb, h.2.1.below hb, h.2.2.1.below hb, h.2.2.2.below hb⟩
     | [_], h => exact ⟨h.1.below hb, h.2.1.below hb, h.2.2.1.below hb, h.2.2.2.below hb⟩
     | _ :: _ :: _, _ => exact trivial
    obtain ⟨b45, o46, A47, C48, A49, C50, ha51, hc52⟩ := InRow.openL hd.rows
    refine WC.seqV (S := ((FF w30 C9 g9 gu9))) [(true, .val (.pointer (some ⟨g9, 0, none⟩))), (true, .val (.pointer (some ⟨g9, 0, none⟩))), (true, .val (.pointer (some ⟨g9, 3, none⟩))), (true, .val (.pointer (some ⟨gm9, 0, none⟩))), (true, .val (.agg #[.bool ((!(lget c j).neg)), .int .i64 ((lget c j).l.f), .slice ((A3 j)) ((lget c j).l.args.length) ((C4 j)), .int .i64 ((lget c j).r.f), .slice ((A5 j)) ((lget c j).r.args.length) ((C6 j))])), (true, .val (.slice da d.length dc)), (true, .val (.int .i64 (((i : Nat) : Int)))), (true, .val (.pointer (some ⟨b45, o46 + i * 5, none⟩))), (true, .val (.agg #[.bool ((lget d i).neg), .int .i64 ((lget d i).l.f), .slice ((A47 i)) ((lget d i).l.args.length) ((C48 i)), .int .i64 ((lget d i).r.f), .slice ((A49 i)) ((lget d i).r.args.length) ((C50 i))])), (true, .val (.bool ((bif decide (k = 0) then false else true)))), (true, .val undef), (true, .val (.bool ((lOk (lget c j).opp (lget d i) (bif decide (k = 0) then false else true) [])))), ((true && (lOk (lget c j).opp (lget d i) (bif decide (k = 0) then false else true) [])), .val (.pointer (some ⟨g9, 0, none⟩))), (true, .val undef), (true, .val (.bool (((lOk (lget c j).opp (lget d i) (bif decide (k = 0) then false else true) []) && (into d (c.eraseIdx j) ((List.replicate d.length false).set i true) (lTo (lget c j).opp (lget d i) (bif decide (k = 0) then false else true) []) 0).1))))] [(0, .slice ca c.length cc), (1, .slice da d.length dc), (2, .int .i64 (((i : Nat) : Int))), (3, .int .i64 (((j : Nat) : Int))), (9, .pointer (some ⟨g10, 0, none⟩)), (11, .bool ((bif decide (k = 0) then false else true))), (12, .pointer (some ⟨g9, 0, none⟩)), (21, .agg #[.bool false, .bool true]), (22, .int .i64 (((k : Nat) : Int))), (23, .bool ((decide ((((k : Nat) : Int) : Int) < (2 : Int)))))] [10, 13] [some (true, .bool ((lOk (lget c j).opp (lget d i) (bif decide (k = 0) then false else true) []))), some ((true && (lOk (lget c j).opp (lget d i) (bif decide (k = 0) then false else true) [])), .bool ((into d (c.eraseIdx j) ((List.replicate d.length false).set i true) (lTo (lget c j).opp (lget d i) (bif decide (k = 0) then false else true) []) 0).1))] (fun vs wz => match vs with | [] => MatG w30 C9 g9 gu9 gm9 [] wz ∧ URow wz gu9 4 ((List.replicate d.length false).set i true) ∧ Blk wz g9 81 #[.slice p9 ((c.eraseIdx j).length) c9, .slice da d.length dc, .slice ((some ⟨gu9, 0, none⟩)) d.length d.length, .pointer (some ⟨gm9, 0, none⟩), .int .i64 0] ∧ Now w30 C9 g9 gu9 wz | [_] => MatG w30 C9 g9 gu9 gm9 (lTo (lget c j).opp (lget d i) (bif decide (k = 0) then false else true) []) wz ∧ URow wz gu9 4 ((List.replicate d.length false).set i true) ∧ Blk wz g9 81 #[.slice p9 ((c.eraseIdx j).length) c9, .slice da d.length dc, .slice ((some ⟨gu9, 0, none⟩)) d.length d.length, .pointer (some ⟨gm9, 0, none⟩), .int .i64 0] ∧ Now w30 C9 g9 gu9 wz | _ => True) hGV9 (by decide) ⟨rfl, rfl, rfl, rfl, rfl, rfl, rfl, rfl, rfl, rfl, trivial⟩ (by kernel_rfl) (by kernel_rfl) (by kernel_rfl) (by kernel_rfl) (⟨hgo39, hU37, hB44, hw40⟩) ?_ ?_
    ·refine ⟨.inl ⟨rfl, true, .none rfl, (fun gg b h => by cases h), fun h w => optUndef h, fun zβ za zw zc => ?_⟩, ?_⟩
     ·exact wp_move rfl (zc.kn.ev rfl) ⟨_, rfl, Below.refl _ _, optDef zβ rfl⟩
     refine ⟨.inl ⟨rfl, true, .none rfl, (fun gg b h => by cases h), fun h w => optUndef h, fun zβ za zw zc => ?_⟩, ?_⟩
     ·exact nilCheck_ rfl ((evt za 41).trans (optSVal (zc.dep 0 41 (by kernel_rfl) (by decide)) rfl rfl)) ⟨_, rfl, Below.refl _ _, optDef zβ rfl⟩
     refine ⟨.inl ⟨rfl, true, .none rfl, (fun gg b h => by cases h), fun h w => optUndef h, fun zβ za zw zc => ?_⟩, ?_⟩
     ·exact fld_81_3 rfl ((evt za 42).trans (optSVal (zc.dep 1 42 (by kernel_rfl) (by decide)) rfl rfl)) ⟨_, rfl, Below.refl _ _, optDef zβ rfl⟩
     refine ⟨.inl ⟨rfl, true, .none rfl, (fun gg b h => by cases h), fun h w => optUndef h, fun zβ za zw zc => ?_⟩, ?_⟩
     ·obtain ⟨vals, hvl, hvg, _⟩ := zc.early 1 13 rfl (by kernel_rfl)
      have hB9 : Blk zw g9 81 #[.slice p9 ((c.eraseIdx j).length) c9, .slice da d.length dc, .slice ((some ⟨gu9, 0, none⟩)) d.length d.length, .pointer (some ⟨gm9, 0, none⟩), .int .i64 0] := by
       match vals, hvl, hvg with
       | [], _, hvg => exact hvg.2.2.1
       | [_], _, hvg => exact hvg.2.2.1
      exact ld_78 rfl ((evt za 43).trans (optSVal (zc.dep 2 43 (by kernel_rfl) (by decide)) rfl rfl)) ((hB9.cell 3).trans rfl) ⟨_, rfl, Below.refl _ _, optDef zβ rfl⟩
     refine ⟨.inl ⟨rfl, true, .none rfl, (fun gg b h => by cases h), fun h w => optUndef h, fun zβ za zw zc => ?_⟩, ?_⟩
     ·exact ld_60 rfl (zc.kn.ev rfl) (chg_cell zc.chg (by intro e; have z := hff9 _ e; (try dsimp only at *); omega) ((hB43.cell 0).trans rfl)) (chg_cell zc.chg (by intro e; have z := hff9 _ e; (try dsimp only at *); omega) ((hB43.cell 1).trans rfl)) (chg_cell zc.chg (by intro e; have z := hff9 _ e; (try dsimp only at *); omega) ((hB43.cell 2).trans rfl)) (chg_cell zc.chg (by intro e; have z := hff9 _ e; (try dsimp only at *); omega) ((hB43.cell 3).trans rfl)) (chg_cell zc.chg (by intro e; have z := hff9 _ e; (try dsimp only at *); omega) ((hB43.cell 4).trans rfl)) ⟨_, rfl, Below.refl _ _, optDef zβ rfl⟩
     refine ⟨.inl ⟨rfl, true, .none rfl, (fun gg b h => by cases h), fun h w => optUndef h, fun zβ za zw zc => ?_⟩, ?_⟩
     ·exact wp_move rfl (zc.kn.ev rfl) ⟨_, rfl, Below.refl _ _, optDef zβ rfl⟩
     refine ⟨.inl ⟨rfl, true, .none rfl, (fun gg b h => by cases h), fun h w => optUndef h, fun zβ za zw zc => ?_⟩, ?_⟩
     ·exact wp_move rfl (zc.kn.ev rfl) ⟨_, rfl, Below.refl _ _, optDef zβ rfl⟩
     refine ⟨.inl ⟨rfl, true, .none rfl, (fun gg b h => by cases h), fun h w => optUndef h, fun zβ za zw zc => ?_⟩, ?_⟩
     ·exact ix_29 (k := i) rfl ((evt za 46).trans (optSVal (zc.dep 5 46 (by kernel_rfl) (by decide)) rfl rfl)) (ha51 i (by first | omega | (simp; omega))) ((evt za 47).trans (optSVal (zc.dep 6 47 (by kernel_rfl) (by decide)) rfl rfl)) (by first | omega | (simp; omega)) ⟨_, rfl, Below.refl _ _, optDef zβ rfl⟩
     refine ⟨.inl ⟨rfl, true, .none rfl, (fun gg b h => by cases h), fun h w => optUndef h, fun zβ za zw zc => ?_⟩, ?_⟩
     ·exact ld_60 rfl ((evt za 48).trans (optSVal (zc.dep 7 48 (by kernel_rfl) (by decide)) rfl rfl)) (chg_old hb42 zc.chg (fun b hb => by intro e; have z := hff9 _ e; (try dsimp only at *); omega) (hc52 i (by first | omega | (simp; omega))).1) (chg_old hb42 zc.chg (fun b hb => by intro e; have z := hff9 _ e; (try dsimp only at *); omega) (hc52 i (by first | omega | (simp; omega))).2.1) (chg_old hb42 zc.chg (fun b hb => by intro e; have z := hff9 _ e; (try dsimp only at *); omega) (hc52 i (by first | omega | (simp; omega))).2.2.1) (chg_old hb42 zc.chg (fun b hb => by intro e; have z := hff9 _ e; (try dsimp only at *); omega) (hc52 i (by first | omega | (simp; omega))).2.2.2.1) (chg_old hb42 zc.chg (fun b hb => by intro e; have z := hff9 _ e; (try dsimp only at *); omega) (hc52 i (by first | omega | (simp; omega))).2.2.2.2.1) ⟨_, rfl, Below.refl _ _, optDef zβ rfl⟩
     refine ⟨.inl ⟨rfl, true, .none rfl, (fun gg b h => by cases h), fun h w => optUndef h, fun zβ za zw zc => ?_⟩, ?_⟩
     ·exact wp_move rfl (zc.kn.ev rfl) ⟨_, rfl, Below.refl _ _, optDef zβ rfl⟩
     refine ⟨.inr ⟨0, rfl, by kernel_rfl, true, .none rfl, (fun gg b h => by cases h), (fun h => (nomatch h)), fun zβ za zw zvals zc => ?_⟩, ?_⟩
     ·obtain rfl := vlen0 zc.len
      have zn := zc.now
      have hws9 := zc.chg.size
      exact wp_call (by kernel_rfl) rfl (hv4 ((evt za 44).trans (optSVal (zc.dep 3 44 (by kernel_rfl) (by decide)) rfl rfl)) ((evt za 45).trans (optSVal (zc.dep 4 45 (by kernel_rfl) (by decide)) rfl rfl)) ((evt za 49).trans (optSVal (zc.dep 8 49 (by kernel_rfl) (by decide)) rfl rfl)) ((evt za 50).trans (optSVal (zc.dep 9 50 (by kernel_rfl) (by decide)) rfl rfl))) (mlit_g (A := fun b => b < w.heap.size) (lget c j).opp (lget d i) (bif decide (k = 0) then false else true) zn.1 (by omega) (by omega) (by omega) (LiIn.chgA (LiIn.keep (fun p v hp hv => bkeeps hb42 p v hv) (LiIn.mono (S := fun _ => True) (S' := fun b => b < w.heap.size) (fun b _ hb => hb) ⟨_, _, _, _, rfl, (hc8 j hj).2.2.2.2.2.1, (hc8 j hj).2.2.2.2.2.2⟩)) zc.chg (fun b q e => by have z := hff9 b e; omega)) (LiIn.chgA (LiIn.keep (fun p v hp hv => bkeeps hb42 p v hv) (LiIn.mono (S := fun _ => True) (S' := fun b => b < w.heap.size) (fun b _ hb => hb) ⟨_, _, _, _, rfl, (hc52 i hi).2.2.2.2.2.1, (hc52 i hi).2.2.2.2.2.2⟩)) zc.chg (fun b q e => by have z := hff9 b e; omega)) (fun b q e => by have z := hff9 b e; omega) (show (lget c j).l.size ≤ 4294967296 by omega) (show (lget c j).r.size ≤ 4294967296 by omega) (by omega) (by omega) (show ([] : List Bd).length + (lget c j).l.size + (lget c j).r.size ≤ 1099511627776 by simp only [List.length_nil]; omega)) (fun v w' h => ⟨v, rfl, h.2.mono (fun b q => q.ff), ⟨h.1.2, URow.chg zn.2.1 h.2 (fun e => e.2.2 rfl), chg_blk zn.2.2.1 h.2 (fun e => e.2.1 rfl), Now.chg zn.2.2.2 h.2 (fun b q => q.ff)⟩, cvIs h.1.1⟩)
     refine ⟨.inl ⟨rfl, true, .none rfl, (fun gg b h => by cases h), fun h w => optUndef h, fun zβ za zw zc => ?_⟩, ?_⟩
     ·exact wp_move rfl ((evt za 51).trans (zc.link 0 10 51 _ _ rfl (by kernel_rfl) rfl rfl)) ⟨_, rfl, Below.refl _ _, optDef zβ rfl⟩
     refine ⟨.inl ⟨rfl, (true && (lOk (lget c j).opp (lget d i) (bif decide (k = 0) then false else true) [])), .yes (c := (lOk (lget c j).opp (lget d i) (bif decide (k = 0) then false else true) [])) (d := true) rfl (fun v w h => h), (fun gg b h => by cases h; rfl), fun h w => optUndef h, fun zβ za zw zc => ?_⟩, ?_⟩
     ·exact wp_move rfl (zc.kn.ev rfl) ⟨_, rfl, Below.refl _ _, optDef zβ rfl⟩
     refine ⟨.inr ⟨1, rfl, by kernel_rfl, (true && (lOk (lget c j).opp (lget d i) (bif decide (k = 0) then false else true) [])), .yes (c := (lOk (lget c j).opp (lget d i) (bif decide (k = 0) then false else true) [])) (d := true) rfl (fun v w h => h), (fun gg b h => by cases h; rfl), (fun h w vals hl h2 => by obtain ⟨z0, rfl⟩ := vlen1 hl; exact ⟨trivial, cvOff h⟩), fun zβ za zw zvals zc => ?_⟩, ?_⟩
     ·obtain ⟨z0, rfl⟩ := vlen1 zc.len
      have zn := zc.now
      exact wp_call (by kernel_rfl) rfl (hv2 ((evt za 53).trans (optSVal (zc.dep 12 53 (by kernel_rfl) (by decide)) rfl zβ)) (zc.kn.ev rfl)) (into_any w30 C9 (fun b => ¬ FF w30 C9 g9 gu9 b) g9 gu9 gm9 (c.eraseIdx j) d p9 da c9 dc k91 (fun b q => q) hcl9 hdl9 hze hzd (by omega) hdn (c.eraseIdx j).length 0 rfl ((List.replicate d.length false).set i true) (lTo (lget c j).opp (lget d i) (bif decide (k = 0) then false else true) []) 0 _ (by simp) (by omega) (by have z := (lTo_len (p := (lget c j).opp) (l := (lget d i)) (b := (bif decide (k = 0) then false else true)) (st := [])).2.1; have z1 := hz1; have e1 : (lget c j).opp.l.size = (lget c j).l.size := rfl; have e2 : (lget c j).opp.r.size = (lget c j).r.size := rfl; simp only [List.length_nil] at z; omega) zn.2.2.2 zn.1 zn.2.1 zn.2.2.1) (fun v w' h => ⟨v, rfl, Now.between zn.2.2.2 h.2.1 h.2.2, trivial, cvIs h.1.1⟩)
     refine ⟨.inl ⟨rfl, true, .none rfl, (fun gg b h => by cases h), fun h w => optUndef h, fun zβ za zw zc => ?_⟩, ?_⟩
     ·exact wp_and rfl ((evt za 52).trans (optSVal (zc.dep 11 52 (by kernel_rfl) (by decide)) rfl rfl)) (fun hp => ((evt za 54).trans (zc.link 1 13 54 _ _ rfl (by kernel_rfl) rfl (bMk zβ hp)))) ⟨_, rfl, Below.refl _ _, optDef zβ rfl⟩
     exact trivial
    ·intro za w53 zvals zh zl hG54 hc55 zu zw zk
     obtain ⟨z0, z1, rfl⟩ := vlen2 zl
     have zh := zh.cons (d := 55) (v := .bool (((lOk (lget c j).opp (lget d i) (bif decide (k = 0) then false else true) []) && (into d (c.eraseIdx j) ((List.replicate d.length false).set i true) (lTo (lget c j).opp (lget d i) (bif decide (k = 0) then false else true) []) 0).1))) (optSVal (zu 14 55 (by kernel_rfl) (by decide)) rfl rfl)
     have hb56 := chg_below hb42 hc55 (fun b hb e => by have z := hff9 b e; omega)
     have hB57 := chg_blk hB43 hc55 (fun e => by have z := hff9 _ e; omega)
     clear zu zw zk
     refine WE.go zh ?_
     refine WE.next ?_
     refine WC.cond rfl (fun h58 => ?_) (fun h58 => ?_)
     ·have h58 : ((lOk (lget c j).opp (lget d i) (bif decide (k = 0) then false else true) []) = true) ∧ ((into d (c.eraseIdx j) ((List.replicate d.length false).set i true) (lTo (lget c j).opp (lget d i) (bif decide (k = 0) then false else true) []) 0).1 = true) := by simpa using h58
      refine WC.seq (WC.region (WL.asg rfl rfl rfl rfl rfl (WL.nil (WE.next (WC.ret (WE.blockRet (WE.thenRet (WE.thenRet (WE.blockRet (WE.thenRet (WE.ret1 rfl rfl ?_)))))))))))
      have hT : cutTu c d i j (bif decide (k = 0) then false else true) = true := by unfold cutTu; simpa using h58
      have hT2 : cutsB c d i j = true := by
       unfold cutsB
       obtain e | e : k = 0 ∨ k = 1 := by omega
       ·rw [e] at hT; rw [show cutTu c d i j false = true from hT]; rfl
       ·rw [e] at hT; rw [show cutTu c d i j true = true from hT, Bool.or_true]
      exact ⟨_, rfl, by rw [hT2], hb56⟩
     ·have h58 : ¬ (((lOk (lget c j).opp (lget d i) (bif decide (k = 0) then false else true) []) = true) ∧ ((into d (c.eraseIdx j) ((List.replicate d.length false).set i true) (lTo (lget c j).opp (lget d i) (bif decide (k = 0) then false else true) []) 0).1 = true)) := by simpa using h58
      refine WC.skip (WE.blockNormal (WE.next (WC.region ?_)))
      refine WL.val (.int .i64 ((((k + 1) : Nat) : Int))) rfl rfl rfl (fun za zC zh zk => addb_3 rfl (zh.ev rfl) (zh.ev rfl) (wrap_eq (by omega) (by omega) (by omega)) zk) ?_
      refine WL.mv rfl rfl rfl rfl rfl (WL.nil ?_)
      refine WE.round (k + 1) ⟨rfl, rfl, rfl, rfl, rfl, rfl, rfl, trivial⟩ ?_ ?_
      ·exact ⟨by omega, fun q hq => by
         by_cases e : q = k
         ·rw [e]; unfold cutTu; simpa using h58
         ·exact hall q (by omega), hb56, hB57⟩
      ·omega
  ·have h29 : ¬ ((((k : Nat) : Int) : Int) < (2 : Int)) := by simpa using h29
   refine WC.exit (WE.thenExit (WE.thenExit (WE.blockIs rfl (WE.next (WC.seq (WC.region (WL.asg rfl rfl rfl rfl rfl (WL.nil (WE.next (WC.ret (WE.ret1 rfl rfl ?_)))))))))))
   have hT2 : cutsB c d i j = false := by
    have z0 := hall 0 (by omega)
    have z1 := hall 1 (by omega)
    unfold cutsB; rw [show cutTu c d i j false = false from z0, show cutTu c d i j true = false from z1]; rfl
   exact ⟨_, rfl, by rw [hT2], hb27⟩
end Go.Proofs.Ytnmopmdpnpcdhaa

namespace Go.Proofs.Ytnmopmdpnpcdhaa
open Go.RowKit Go
set_option linter.unusedVariables false
set_option linter.unusedSimpArgs false
theorem clSmallB_all {most : Int} {l : List Li} (h : clSmallB most l = true) : l.length ≤ 16 ∧ ∀ x ∈ l, x.l.size ≤ 300 ∧ x.r.size ≤ 300 := by
 unfold clSmallB at h
 rw [Bool.and_eq_true, decide_eq_true_eq, List.all_eq_true] at h
 refine ⟨h.1, fun x hx => ?_⟩
 have z := h.2 x hx
 unfold smallL at z
 rw [Bool.and_eq_true] at z
 have z1 := (smB_iff.1 z.1).1
 have z2 := (smB_iff.1 z.2).1
 exact ⟨by omega, by omega⟩
def cutAt (c d : List Li) (i : Nat) : Bool := (List.range c.length).any (cutsB c d i)
def cutFair (c d : List Li) : Bool := clSmallB 1099511627776 c && (clSmallB 1099511627776 d && decide (c.length ≤ d.length))
def cutO (c d : List Li) : Option (Int × List Li) := (if cutFair c d = true then firstR (cutAt c d) d.length else none).map fun i => (8, d.eraseIdx i)
theorem cutFair_iff {c d : List Li} : cutFair c d = true ↔ clSmallB 1099511627776 c = true ∧ clSmallB 1099511627776 d = true ∧ c.length ≤ d.length := by unfold cutFair; simp
set_option maxRecDepth 100000 in
theorem cut_any (c d : List Li) (w : World) (ca da : Option Addr) (cc dc : Nat) (h : IsCl w c ca cc) (hd : IsCl w d da dc) (hlc : c.length ≤ 1048576) (hld : d.length ≤ 1048576) :
  Calls Try.prog 12 #[.slice ca c.length cc, .slice da d.length dc] w (Ret fun v' w' => WayV w w' (cutO c d) v' ∧ Below w.heap.size w w') := by
 have hcap := h.cap
 have hcap2 := hd.cap
 refine Calls.walk (l := [.slice ca c.length cc, .slice da d.length dc]) Try.func12 rfl (by kernel_rfl) ?_
 refine WC.sub (K' := [(0, .slice ca c.length cc), (1, .slice da d.length dc)]) ⟨rfl, rfl, trivial⟩ ?_
 refine WC.seq (WC.region ?_)
 refine WL.step (post := NewBlk w 40 #[.int .i64 0, .slice none 0 0, .slice none 0 0, .slice none 0 0, .slice none 0 0, .slice none 0 0]) rfl rfl rfl (fun za zC zh zk => alloc_40 rfl (zk _ _ (newBlk _ _ _))) ?_
 rintro _ w1 ⟨g2, rfl, hg3, hB4, hb5, hz6⟩
 have hl7 : w.heap.size ≤ g2 := by omega
 refine WL.asg rfl rfl rfl rfl rfl (WL.nil (WE.next (WC.seq (WC.seq ?_))))
 refine WC.opt [(true, .val (.slice ca c.length cc)), (true, .val (.bool ((clSmallB 1099511627776 c)))), (true, .val (.bool ((!(clSmallB 1099511627776 c))))), (true, .val (.bool ((!(clSmallB 1099511627776 c))))), ((true && !(!(clSmallB 1099511627776 c))), .val (.slice da d.length dc)), ((true && !(!(clSmallB 1099511627776 c))), .val (.bool ((clSmallB 1099511627776 d)))), ((true && !(!(clSmallB 1099511627776 c))), .val (.bool ((!(clSmallB 1099511627776 d))))), (true, .val (.bool (((!(clSmallB 1099511627776 c)) || (!(clSmallB 1099511627776 d)))))), (true, .val (.bool (((!(clSmallB 1099511627776 c)) || (!(clSmallB 1099511627776 d)))))), ((true && !((!(clSmallB 1099511627776 c)) || (!(clSmallB 1099511627776 d)))), .val (.slice ca c.length cc)), ((true && !((!(clSmallB 1099511627776 c)) || (!(clSmallB 1099511627776 d)))), .val (.int .i64 (((c.length : Nat) : Int)))), ((true && !((!(clSmallB 1099511627776 c)) || (!(clSmallB 1099511627776 d)))), .val (.slice da d.length dc)), ((true && !((!(clSmallB 1099511627776 c)) || (!(clSmallB 1099511627776 d)))), .val (.int .i64 (((d.length : Nat) : Int)))), ((true && !((!(clSmallB 1099511627776 c)) || (!(clSmallB 1099511627776 d)))), .val (.bool ((decide ((((d.length : Nat) : Int) : Int) < (((c.length : Nat) : Int) : Int)))))), (true, .val (.bool ((((!(clSmallB 1099511627776 c)) || (!(clSmallB 1099511627776 d))) || (decide ((((d.length : Nat) : Int) : Int) < (((c.length : Nat) : Int) : Int)))))))] [(0, .slice ca c.length cc), (1, .slice da d.length dc), (4, .pointer (some ⟨g2, 0, none⟩)), (5, .bool false)] ⟨rfl, rfl, rfl, rfl, trivial⟩ (by kernel_rfl) (by kernel_rfl) (by kernel_rfl) ?_ ?_
 ·refine ⟨⟨true, .none rfl, fun h w => optUndef h, fun zβ za zw zc => ?_⟩, ?_⟩
  ·exact wp_move rfl (zc.kn.ev rfl) ⟨_, rfl, Below.refl _ _, optDef zβ rfl⟩
  refine ⟨⟨true, .none rfl, fun h w => optUndef h, fun zβ za zw zc => ?_⟩, ?_⟩
  ·exact wp_call (by kernel_rfl) rfl (hv1 ((evt za 8).trans (optVal (zc.dep 0 8 (by kernel_rfl)) rfl rfl))) (fair_any c _ _ _ (h.rows.below (bstep hb5 zc.below)) hlc) (fun v w' h => ⟨v, rfl, h.2, optDef zβ h.1⟩)
  refine ⟨⟨true, .none rfl, fun h w => optUndef h, fun zβ za zw zc => ?_⟩, ?_⟩
  ·exact wp_not rfl ((evt za 9).trans (optVal (zc.dep 1 9 (by kernel_rfl)) rfl rfl)) ⟨_, rfl, Below.refl _ _, optDef zβ rfl⟩
  refine ⟨⟨true, .none rfl, fun h w => optUndef h, fun zβ za zw zc => ?_⟩, ?_⟩
  ·exact wp_move rfl ((evt za 10).trans (optVal (zc.dep 2 10 (by kernel_rfl)) rfl rfl)) ⟨_, rfl, Below.refl _ _, optDef zβ rfl⟩
  refine ⟨⟨_, .no (c := (!(clSmallB 1099511627776 c))) (d := true) rfl (fun v w h => h), fun h w => optUndef h, fun zβ za zw zc => ?_⟩, ?_⟩
  ·exact wp_move rfl (zc.kn.ev rfl) ⟨_, rfl, Below.refl _ _, optDef zβ rfl⟩
  refine ⟨⟨_, .no (c := (!(clSmallB 1099511627776 c))) (d := true) rfl (fun v w h => h), fun h w => optUndef h, fun zβ za zw zc => ?_⟩, ?_⟩
  ·exact wp_call (by kernel_rfl) rfl (hv1 ((evt za 12).trans (optVal (zc.dep 4 12 (by kernel_rfl)) rfl zβ))) (fair_any d _ _ _ (hd.rows.below (bstep hb5 zc.below)) hld) (fun v w' h => ⟨v, rfl, h.2, optDef zβ h.1⟩)
  refine ⟨⟨_, .no (c := (!(clSmallB 1099511627776 c))) (d := true) rfl (fun v w h => h), fun h w => optUndef h, fun zβ za zw zc => ?_⟩, ?_⟩
  ·exact wp_not rfl ((evt za 13).trans (optVal (zc.dep 5 13 (by kernel_rfl)) rfl zβ)) ⟨_, rfl, Below.refl _ _, optDef zβ rfl⟩
  refine ⟨⟨true, .none rfl, fun h w => optUndef h, fun zβ za zw zc => ?_⟩, ?_⟩
  ·exact wp_or rfl ((evt za 11).trans (optVal (zc.dep 3 11 (by kernel_rfl)) rfl rfl)) (fun hp => ((evt za 14).trans (optVal (zc.dep 6 14 (by kernel_rfl)) rfl (bMkN zβ hp)))) ⟨_, rfl, Below.refl _ _, optDef zβ rfl⟩
  refine ⟨⟨true, .none rfl, fun h w => optUndef h, fun zβ za zw zc => ?_⟩, ?_⟩
  ·exact wp_move rfl ((evt za 15).trans (optVal (zc.dep 7 15 (by kernel_rfl)) rfl rfl)) ⟨_, rfl, Below.refl _ _, optDef zβ rfl⟩
  refine ⟨⟨_, .no (c := ((!(clSmallB 1099511627776 c)) || (!(clSmallB 1099511627776 d)))) (d := true) rfl (fun v w h => h), fun h w => optUndef h, fun zβ za zw zc => ?_⟩, ?_⟩
  ·exact wp_move rfl (zc.kn.ev rfl) ⟨_, rfl, Below.refl _ _, optDef zβ rfl⟩
  refine ⟨⟨_, .no (c := ((!(clSmallB 1099511627776 c)) || (!(clSmallB 1099511627776 d)))) (d := true) rfl (fun v w h => h), fun h w => optUndef h, fun zβ za zw zc => ?_⟩, ?_⟩
  ·exact len_29 rfl ((evt za 17).trans (optVal (zc.dep 9 17 (by kernel_rfl)) rfl zβ)) ⟨_, rfl, Below.refl _ _, optDef zβ rfl⟩
  refine ⟨⟨_, .no (c := ((!(clSmallB 1099511627776 c)) || (!(clSmallB 1099511627776 d)))) (d := true) rfl (fun v w h => h), fun h w => optUndef h, fun zβ za zw zc => ?_⟩, ?_⟩
  ·exact wp_move rfl (zc.kn.ev rfl) ⟨_, rfl, Below.refl _ _, optDef zβ rfl⟩
  refine ⟨⟨_, .no (c := ((!(clSmallB 1099511627776 c)) || (!(clSmallB 1099511627776 d)))) (d := true) rfl (fun v w h => h), fun h w => optUndef h, fun zβ za zw zc => ?_⟩, ?_⟩
  ·exact len_29 rfl ((evt za 19).trans (optVal (zc.dep 11 19 (by kernel_rfl)) rfl zβ)) ⟨_, rfl, Below.refl _ _, optDef zβ rfl⟩
  refine ⟨⟨_, .no (c := ((!(clSmallB 1099511627776 c)) || (!(clSmallB 1099511627776 d)))) (d := true) rfl (fun v w h => h), fun h w => optUndef h, fun zβ za zw zc => ?_⟩, ?_⟩
  ·exact gtr_3 rfl ((evt za 18).trans (optVal (zc.dep 10 18 (by kernel_rfl)) rfl zβ)) ((evt za 20).trans (optVal (zc.dep 12 20 (by kernel_rfl)) rfl zβ)) ⟨_, rfl, Below.refl _ _, optDef zβ rfl⟩
  refine ⟨⟨true, .none rfl, fun h w => optUndef h, fun zβ za zw zc => ?_⟩, ?_⟩
  ·exact wp_or rfl ((evt za 16).trans (optVal (zc.dep 8 16 (by kernel_rfl)) rfl rfl)) (fun hp => ((evt za 21).trans (optVal (zc.dep 13 21 (by kernel_rfl)) rfl (bMkN zβ hp)))) ⟨_, rfl, Below.refl _ _, optDef zβ rfl⟩
  exact trivial
 ·intro za w10 zh hb11 zu
  have zh := zh.cons (d := 22) (v := .bool ((((!(clSmallB 1099511627776 c)) || (!(clSmallB 1099511627776 d))) || (decide ((((d.length : Nat) : Int) : Int) < (((c.length : Nat) : Int) : Int)))))) (optVal (zu 14 22 (by kernel_rfl)) rfl rfl)
  clear zu
  refine WE.go zh ?_
  refine WE.next ?_
  refine WC.cond rfl (fun h12 => ?_) (fun h12 => ?_)
  ·have h12 : ((¬ ((clSmallB 1099511627776 c) = true)) ∨ (¬ ((clSmallB 1099511627776 d) = true))) ∨ ((((d.length : Nat) : Int) : Int) < (((c.length : Nat) : Int) : Int)) := by simpa using h12
   refine WC.seq (WC.region ?_)
   refine WL.val (.agg #[.int .i64 0, .slice none 0 0, .slice none 0 0, .slice none 0 0, .slice none 0 0, .slice none 0 0]) rfl rfl rfl (fun za zC zh zk => build_40_ rfl  zk) ?_
   have hB13 := hB4.below hb11
   refine WL.step (post := fun _ w' => Upd g2 w10 w' ∧ Blk w' g2 40 #[.int .i64 0, .slice none 0 0, .slice none 0 0, .slice none 0 0, .slice none 0 0, .slice none 0 0]) rfl rfl rfl (fun za zC zh zk => st_40 rfl (zh.ev rfl) (zh.ev rfl) rfl rfl rfl rfl rfl rfl hB13 (by first | decide | simp) (fun v => zk v _ ⟨(((((Upd.at_ _ _ _ _).trans (Upd.at_ _ _ _ _)).trans (Upd.at_ _ _ _ _)).trans (Upd.at_ _ _ _ _)).trans (Upd.at_ _ _ _ _)).trans (Upd.at_ _ _ _ _), (((((hB13.set_ 0 _).set_ 1 _).set_ 2 _).set_ 3 _).set_ 4 _).set_ 5 _⟩)) ?_
   rintro v17 w14 ⟨hu15, hB16⟩
   have hb18 : Below w.heap.size w w10 := (bstep hb5 hb11)
   have hb19 := upd_below hb18 hu15 (by omega)
   refine WL.asg rfl rfl rfl rfl rfl (WL.nil (WE.next (WC.ret (WE.thenRet ?_))))
   refine WE.retAny (v := .tuple #[.agg #[.int .i64 0, .slice none 0 0, .slice none 0 0, .slice none 0 0, .slice none 0 0, .slice none 0 0], .bool false]) (fun za zh => ?_) ?_
   ·have z0 : za.tmps[4]?.getD undef = .pointer (some ⟨g2, 0, none⟩) := by rw [← Array.getD_eq_getD_getElem?]; exact zh.knows 4 _ rfl
    have y0_0 : w14.cell? ⟨g2, 0, none⟩ = some (.int .i64 0) := ((hB16.cell 0).trans rfl)
    have y0_1 : w14.cell? ⟨g2, 1, none⟩ = some (.slice none 0 0) := ((hB16.cell 1).trans rfl)
    have y0_2 : w14.cell? ⟨g2, 2, none⟩ = some (.slice none 0 0) := ((hB16.cell 2).trans rfl)
    have y0_3 : w14.cell? ⟨g2, 3, none⟩ = some (.slice none 0 0) := ((hB16.cell 3).trans rfl)
    have y0_4 : w14.cell? ⟨g2, 4, none⟩ = some (.slice none 0 0) := ((hB16.cell 4).trans rfl)
    have y0_5 : w14.cell? ⟨g2, 5, none⟩ = some (.slice none 0 0) := ((hB16.cell 5).trans rfl)
    have z1 : za.tmps[5]?.getD undef = .bool false := by rw [← Array.getD_eq_getD_getElem?]; exact zh.knows 5 _ rfl
    simp [results, Try.results12, z0, y0_0, y0_1, y0_2, y0_3, y0_4, y0_5, z1, go_sem]
   ·have ho : cutO c d = none := by
     unfold cutO; rw [if_neg (fun e => by have z1 := cutFair_iff.1 e; have z := h12; simp [z1.1, z1.2.1] at z; omega)]; rfl
    exact ⟨_, rfl, by rw [ho]; rfl, hb19⟩
  ·have h12 : ¬ (((¬ ((clSmallB 1099511627776 c) = true)) ∨ (¬ ((clSmallB 1099511627776 d) = true))) ∨ ((((d.length : Nat) : Int) : Int) < (((c.length : Nat) : Int) : Int))) := by simpa using h12
   refine WC.skip (WE.next (WC.seq (WC.seq (WC.region (WL.mv rfl rfl rfl rfl rfl ?_)))))
   refine WL.val (.int .i64 (((d.length : Nat) : Int))) rfl rfl rfl (fun za zC zh zk => len_29 rfl (zh.ev rfl) zk) ?_
   refine WL.mv rfl rfl rfl rfl rfl (WL.nil (WE.next (WC.block ?_)))
   have hfair : cutFair c d = true := by
    rw [cutFair_iff]
    have z := h12
    simp at z
    exact ⟨by simp [z], by simp [z], by omega⟩
   have hff := cutFair_iff.1 hfair
   have hac := clSmallB_all hff.1
   have had := clSmallB_all hff.2.1
   refine WC.loop (X := Nat) (fun i => d.length - i) (fun i => [(0, .slice ca c.length cc), (1, .slice da d.length dc), (4, .pointer (some ⟨g2, 0, none⟩)), (22, .bool ((((!(clSmallB 1099511627776 c)) || (!(clSmallB 1099511627776 d))) || (decide ((((d.length : Nat) : Int) : Int) < (((c.length : Nat) : Int) : Int)))))), (25, .int .i64 (((d.length : Nat) : Int))), (26, .int .i64 (((i : Nat) : Int)))]) (fun i w20 => i ≤ d.length ∧ (∀ q, q < i → cutAt c d q = false) ∧ Below w.heap.size w w20 ∧ Blk w20 g2 40 #[.int .i64 0, .slice none 0 0, .slice none 0 0, .slice none 0 0, .slice none 0 0, .slice none 0 0]) 0 ⟨rfl, rfl, rfl, rfl, rfl, rfl, trivial⟩ ?_ ?_
   ·have hb21 : Below w.heap.size w w10 := (bstep hb5 hb11)
    have hB22 := hB4.below hb11
    exact ⟨Nat.zero_le _, fun q h => absurd h (Nat.not_lt_zero q), hb21, hB22⟩
   ·rintro i w20 ⟨hi, hall, hb23, hB24⟩
    refine WC.seq (WC.region ?_)
    refine WL.val (.bool ((decide ((((i : Nat) : Int) : Int) < (((d.length : Nat) : Int) : Int))))) rfl rfl rfl (fun za zC zh zk => lss_3 rfl (zh.ev rfl) (zh.ev rfl) zk) ?_
    refine WL.nil (WE.next (WC.seq ?_))
    refine WC.cond rfl (fun h25 => ?_) (fun h25 => ?_)
    ·have h25 : (((i : Nat) : Int) : Int) < (((d.length : Nat) : Int) : Int) := by simpa using h25
     refine WC.skip (WE.next (WC.seq (WC.block (WC.seq (WC.region (WL.mv rfl rfl rfl rfl rfl (WL.asg rfl rfl rfl rfl rfl (WL.nil (WE.next (WC.seq (WC.region (WL.mv rfl rfl rfl rfl rfl ?_))))))))))))
     refine WL.val (.int .i64 (((c.length : Nat) : Int))) rfl rfl rfl (fun za zC zh zk => len_29 rfl (zh.ev rfl) zk) ?_
     refine WL.mv rfl rfl rfl rfl rfl (WL.nil (WE.next (WC.block ?_)))
     refine WC.loop (X := Nat) (fun j => c.length - j) (fun j => [(0, .slice ca c.length cc), (1, .slice da d.length dc), (4, .pointer (some ⟨g2, 0, none⟩)), (6, .int .i64 (((i : Nat) : Int))), (22, .bool ((((!(clSmallB 1099511627776 c)) || (!(clSmallB 1099511627776 d))) || (decide ((((d.length : Nat) : Int) : Int) < (((c.length : Nat) : Int) : Int)))))), (25, .int .i64 (((d.length : Nat) : Int))), (26, .int .i64 (((i : Nat) : Int))), (27, .bool ((decide ((((i : Nat) : Int) : Int) < (((d.length : Nat) : Int) : Int))))), (30, .int .i64 (((c.length : Nat) : Int))), (31, .int .i64 (((j : Nat) : Int)))]) (fun j w26 => j ≤ c.length ∧ (∀ q, q < j → cutsB c d i q = false) ∧ Below w.heap.size w w26 ∧ Blk w26 g2 40 #[.int .i64 0, .slice none 0 0, .slice none 0 0, .slice none 0 0, .slice none 0 0, .slice none 0 0]) 0 ⟨rfl, rfl, rfl, rfl, rfl, rfl, rfl, rfl, rfl, rfl, trivial⟩ ?_ ?_
     ·exact ⟨Nat.zero_le _, fun q h => absurd h (Nat.not_lt_zero q), hb23, hB24⟩
     ·rintro j w26 ⟨hj, hp, hb27, hB28⟩
      refine WC.seq (WC.region ?_)
      refine WL.val (.bool ((decide ((((j : Nat) : Int) : Int) < (((c.length : Nat) : Int) : Int))))) rfl rfl rfl (fun za zC zh zk => lss_3 rfl (zh.ev rfl) (zh.ev rfl) zk) ?_
      refine WL.nil (WE.next (WC.seq ?_))
      refine WC.cond rfl (fun h29 => ?_) (fun h29 => ?_)
      ·have h29 : (((j : Nat) : Int) : Int) < (((c.length : Nat) : Int) : Int) := by simpa using h29
       refine WC.skip (WE.next (WC.seq (WC.block (WC.seq (WC.region (WL.mv rfl rfl rfl rfl rfl (WL.asg rfl rfl rfl rfl rfl (WL.nil (WE.next (WC.seq (WC.region (WL.mv rfl rfl rfl rfl rfl (WL.mv rfl rfl rfl rfl rfl (WL.mv rfl rfl rfl rfl rfl (WL.mv rfl rfl rfl rfl rfl ?_)))))))))))))))
       refine WL.call rfl rfl rfl (fun za zh zC => wp_call (by kernel_rfl) rfl (hv4 (zh.ev rfl) (zh.ev rfl) (zh.ev rfl) (zh.ev rfl))) (cuts_any c d i j (by omega) (by omega) _ _ _ _ _ (h.below hb27) (hd.below hb27) hac.2 had.2 (by omega) (by omega)) ?_
       rintro _ w31 ⟨rfl, hq30⟩
       refine WL.nil (WE.next ?_)
       refine WC.cond rfl (fun h32 => ?_) (fun h32 => ?_)
       ·skip
        refine WC.seq (WC.region ?_)
        refine WL.step (post := NewRow w31 3 #[.int .i64 0, .int .i64 1] 2) rfl rfl rfl (fun za zC zh zk => row_36_2 rfl (zh.ev rfl) (zh.ev rfl) (zk _ _ (newRow _ _ _ _))) ?_
        rintro _ w33 ⟨g34, rfl, hg35, hB36, hb37, hz38⟩
        have hl39 : g2 < g34 := by have z1 := hB28.lt; have z2 := (hq30).size; omega
        have hb40 : Below w.heap.size w w31 := (bstep hb27 hq30)
        have hl41 : w.heap.size ≤ g34 := by have z2 := (hb40).size; omega
        refine WL.mv rfl rfl rfl rfl rfl ?_
        refine WL.step (post := NewRow w33 3 #[.int .i64 (((i : Nat) : Int))] 1) rfl rfl rfl (fun za zC zh zk => row_36_1 rfl (zh.ev rfl) (zk _ _ (newRow _ _ _ _))) ?_
        rintro _ w42 ⟨g43, rfl, hg44, hB45, hb46, hz47⟩
        have hb48 : Below w26.heap.size w26 w33 := (bstep hq30 hb37)
        have hl49 : g2 < g43 := by have z1 := hB28.lt; have z2 := (hb48).size; omega
        have hl50 : g34 < g43 := by have z1 := hB36.lt; omega
        have hb51 : Below w.heap.size w w33 := (bstep hb27 hb48)
        have hl52 : w.heap.size ≤ g43 := by have z2 := (hb51).size; omega
        refine WL.mv rfl rfl rfl rfl rfl (WL.mv rfl rfl rfl rfl rfl ?_)
        have hb54 : Below w26.heap.size w26 w42 := (bstep hb48 hb46)
        have hB53 := hB28.below hb54
        have hb55 : Below w.heap.size w w42 := (bstep hb27 hb54)
        refine WL.call rfl rfl rfl (fun za zh zC => wp_call (by kernel_rfl) rfl (hv2 (zh.ev rfl) (zh.ev rfl))) (without_any d i (by omega) _ _ _ (hd.below hb55) hld) ?_
        rintro _ w56 ⟨⟨p9, c9, rfl, hN9⟩, hb9⟩
        refine WL.val (.agg #[.int .i64 8, .slice ((some ⟨g34, 0, none⟩)) 2 2, .slice ((some ⟨g43, 0, none⟩)) 1 1, .slice none 0 0, .slice none 0 0, .slice p9 ((d.eraseIdx i).length) c9]) rfl rfl rfl (fun za zC zh zk => build_40_0_1_2_5 rfl (zh.ev rfl) (zh.ev rfl) (zh.ev rfl) (zh.ev rfl) zk) ?_
        have hB57 := hB53.below hb9
        refine WL.step (post := fun _ w' => Upd g2 w56 w' ∧ Blk w' g2 40 #[.int .i64 8, .slice ((some ⟨g34, 0, none⟩)) 2 2, .slice ((some ⟨g43, 0, none⟩)) 1 1, .slice none 0 0, .slice none 0 0, .slice p9 ((d.eraseIdx i).length) c9]) rfl rfl rfl (fun za zC zh zk => st_40 rfl (zh.ev rfl) (zh.ev rfl) rfl rfl rfl rfl rfl rfl hB57 (by first | decide | simp) (fun v => zk v _ ⟨(((((Upd.at_ _ _ _ _).trans (Upd.at_ _ _ _ _)).trans (Upd.at_ _ _ _ _)).trans (Upd.at_ _ _ _ _)).trans (Upd.at_ _ _ _ _)).trans (Upd.at_ _ _ _ _), (((((hB57.set_ 0 _).set_ 1 _).set_ 2 _).set_ 3 _).set_ 4 _).set_ 5 _⟩)) ?_
        rintro v61 w58 ⟨hu59, hB60⟩
        have hb62 : Below w.heap.size w w56 := (bstep hb55 hb9)
        have hb63 := upd_below hb62 hu59 (by omega)
        have hb65 : Below w33.heap.size w33 w56 := (bstep hb46 hb9)
        have hB64 := hB36.below hb65
        have hB66 := upd_blk hB64 hu59 (by omega)
        have hB67 := hB45.below hb9
        have hB68 := upd_blk hB67 hu59 (by omega)
        refine WL.asg rfl rfl rfl rfl rfl (WL.nil (WE.next (WC.ret (WE.blockRet (WE.thenRet (WE.thenRet (WE.blockRet (WE.blockRet (WE.thenRet (WE.thenRet (WE.blockRet (WE.thenRet ?_))))))))))))
        refine WE.retAny (v := .tuple #[.agg #[.int .i64 8, .slice ((some ⟨g34, 0, none⟩)) 2 2, .slice ((some ⟨g43, 0, none⟩)) 1 1, .slice none 0 0, .slice none 0 0, .slice p9 ((d.eraseIdx i).length) c9], .bool true]) (fun za zh => ?_) ?_
        ·have z0 : za.tmps[4]?.getD undef = .pointer (some ⟨g2, 0, none⟩) := by rw [← Array.getD_eq_getD_getElem?]; exact zh.knows 4 _ rfl
         have y0_0 : w58.cell? ⟨g2, 0, none⟩ = some (.int .i64 8) := ((hB60.cell 0).trans rfl)
         have y0_1 : w58.cell? ⟨g2, 1, none⟩ = some (.slice ((some ⟨g34, 0, none⟩)) 2 2) := ((hB60.cell 1).trans rfl)
         have y0_2 : w58.cell? ⟨g2, 2, none⟩ = some (.slice ((some ⟨g43, 0, none⟩)) 1 1) := ((hB60.cell 2).trans rfl)
         have y0_3 : w58.cell? ⟨g2, 3, none⟩ = some (.slice none 0 0) := ((hB60.cell 3).trans rfl)
         have y0_4 : w58.cell? ⟨g2, 4, none⟩ = some (.slice none 0 0) := ((hB60.cell 4).trans rfl)
         have y0_5 : w58.cell? ⟨g2, 5, none⟩ = some (.slice p9 ((d.eraseIdx i).length) c9) := ((hB60.cell 5).trans rfl)
         have z1 : za.tmps[5]?.getD undef = .bool true := by rw [← Array.getD_eq_getD_getElem?]; exact zh.knows 5 _ rfl
         simp [results, Try.results12, z0, y0_0, y0_1, y0_2, y0_3, y0_4, y0_5, z1, go_sem]
        ·have hto : cutAt c d i = true := by unfold cutAt; exact anyR_true (show j < c.length by omega) (by simpa using h32)
         have ho : cutO c d = some (8, d.eraseIdx i) := by unfold cutO; rw [if_pos hfair, firstR_some (show i < d.length by omega) hall hto]; rfl
         have hs69 : Chg ((fun b => b = g2)) w56 w58 := (Chg.trans2 (Chg.refl ((fun b => b = g2)) _) (Chg.ofUpd (S := fun k => k = g2) hu59 rfl) (fun i h1 h2 => by first | exact h2 | exact .inl ⟨h2, h1⟩ | exact .inl h2 | exact .inr h2 | exact .inr (.inl h2) | exact .inr (.inr h2) | ((try dsimp only at *); omega)))
         exact ⟨_, rfl, by rw [ho]; exact ⟨_, rfl, _, _, _, _, _, _, _, _, rfl, (hN9.chg hs69 (fun b hb e => by have z := hB53.lt; have z2 := ((Below.refl 0 w42)).size; (try dsimp only at *); omega)).older (hb55).size⟩, hb63⟩
       ·skip
        refine WC.skip (WE.blockNormal (WE.next (WC.region ?_)))
        refine WL.val (.int .i64 ((((j + 1) : Nat) : Int))) rfl rfl rfl (fun za zC zh zk => addb_3 rfl (zh.ev rfl) (zh.ev rfl) (wrap_eq (by omega) (by omega) (by omega)) zk) ?_
        refine WL.mv rfl rfl rfl rfl rfl (WL.nil ?_)
        refine WE.round (j + 1) ⟨rfl, rfl, rfl, rfl, rfl, rfl, rfl, rfl, rfl, rfl, trivial⟩ ?_ ?_
        ·have hb70 : Below w.heap.size w w31 := (bstep hb27 hq30)
         have hB71 := hB28.below hq30
         exact ⟨by omega, fun q hq => by
           by_cases e : q = j
           ·rw [e]; simpa using h32
           ·exact hp q (by omega), hb70, hB71⟩
        ·omega
      ·have h29 : ¬ ((((j : Nat) : Int) : Int) < (((c.length : Nat) : Int) : Int)) := by simpa using h29
       refine WC.exit (WE.thenExit (WE.thenExit (WE.blockIs rfl (WE.blockNormal (WE.next (WC.region ?_))))))
       refine WL.val (.int .i64 ((((i + 1) : Nat) : Int))) rfl rfl rfl (fun za zC zh zk => addb_3 rfl (zh.ev rfl) (zh.ev rfl) (wrap_eq (by omega) (by omega) (by omega)) zk) ?_
       refine WL.mv rfl rfl rfl rfl rfl (WL.nil ?_)
       have hto : cutAt c d i = false := by unfold cutAt; exact anyR_false (fun q hq => hp q (by omega))
       refine WE.round (i + 1) ⟨rfl, rfl, rfl, rfl, rfl, rfl, trivial⟩ ?_ ?_
       ·exact ⟨by omega, fun q hq => by
          by_cases e : q = i
          ·rw [e]; exact hto
          ·exact hall q (by omega), hb27, hB28⟩
       ·omega
    ·have h25 : ¬ ((((i : Nat) : Int) : Int) < (((d.length : Nat) : Int) : Int)) := by simpa using h25
     refine WC.exit (WE.thenExit (WE.thenExit (WE.blockIs rfl (WE.next (WC.seq (WC.region ?_))))))
     refine WL.val (.agg #[.int .i64 0, .slice none 0 0, .slice none 0 0, .slice none 0 0, .slice none 0 0, .slice none 0 0]) rfl rfl rfl (fun za zC zh zk => build_40_ rfl  zk) ?_
     refine WL.step (post := fun _ w' => Upd g2 w20 w' ∧ Blk w' g2 40 #[.int .i64 0, .slice none 0 0, .slice none 0 0, .slice none 0 0, .slice none 0 0, .slice none 0 0]) rfl rfl rfl (fun za zC zh zk => st_40 rfl (zh.ev rfl) (zh.ev rfl) rfl rfl rfl rfl rfl rfl hB24 (by first | decide | simp) (fun v => zk v _ ⟨(((((Upd.at_ _ _ _ _).trans (Upd.at_ _ _ _ _)).trans (Upd.at_ _ _ _ _)).trans (Upd.at_ _ _ _ _)).trans (Upd.at_ _ _ _ _)).trans (Upd.at_ _ _ _ _), (((((hB24.set_ 0 _).set_ 1 _).set_ 2 _).set_ 3 _).set_ 4 _).set_ 5 _⟩)) ?_
     rintro v75 w72 ⟨hu73, hB74⟩
     have hb76 := upd_below hb23 hu73 (by omega)
     refine WL.asg rfl rfl rfl rfl rfl (WL.nil (WE.next (WC.ret ?_)))
     refine WE.retAny (v := .tuple #[.agg #[.int .i64 0, .slice none 0 0, .slice none 0 0, .slice none 0 0, .slice none 0 0, .slice none 0 0], .bool false]) (fun za zh => ?_) ?_
     ·have z0 : za.tmps[4]?.getD undef = .pointer (some ⟨g2, 0, none⟩) := by rw [← Array.getD_eq_getD_getElem?]; exact zh.knows 4 _ rfl
      have y0_0 : w72.cell? ⟨g2, 0, none⟩ = some (.int .i64 0) := ((hB74.cell 0).trans rfl)
      have y0_1 : w72.cell? ⟨g2, 1, none⟩ = some (.slice none 0 0) := ((hB74.cell 1).trans rfl)
      have y0_2 : w72.cell? ⟨g2, 2, none⟩ = some (.slice none 0 0) := ((hB74.cell 2).trans rfl)
      have y0_3 : w72.cell? ⟨g2, 3, none⟩ = some (.slice none 0 0) := ((hB74.cell 3).trans rfl)
      have y0_4 : w72.cell? ⟨g2, 4, none⟩ = some (.slice none 0 0) := ((hB74.cell 4).trans rfl)
      have y0_5 : w72.cell? ⟨g2, 5, none⟩ = some (.slice none 0 0) := ((hB74.cell 5).trans rfl)
      have z1 : za.tmps[5]?.getD undef = .bool false := by rw [← Array.getD_eq_getD_getElem?]; exact zh.knows 5 _ rfl
      simp [results, Try.results12, z0, y0_0, y0_1, y0_2, y0_3, y0_4, y0_5, z1, go_sem]
     ·have ho : cutO c d = none := by unfold cutO; rw [if_pos hfair, firstR_none (fun q hq => hall q (by omega))]; rfl
      exact ⟨_, rfl, by rw [ho]; rfl, hb76⟩
/-- A clause, as an element. -/
def eltC : Elt (List Li) where
 k := 1
 In := fun S w l cs => ∃ p c, cs = [.slice p l.length c] ∧ l.length ≤ c ∧ c ≤ maxLen ∧ InRow eltL S w l p
 keep := fun hb ⟨p, c, e, h1, h2, h3⟩ => ⟨p, c, e, h1, h2, h3.keep hb⟩
 mono := fun hb ⟨p, c, e, h1, h2, h3⟩ => ⟨p, c, e, h1, h2, h3.mono (by decide) hb⟩
 len := fun ⟨_, _, e, _⟩ => by rw [e]; rfl
 one := fun ⟨p, c, e, _⟩ x hx => by
  rw [e] at hx
  simp only [List.mem_cons, List.not_mem_nil, or_false] at hx
  rw [hx]; rfl
def cg (l : List (List Li)) (k : Nat) : List Li := l.getD k []
theorem cg_lt {l : List (List Li)} {k : Nat} (h : k < l.length) : cg l k = l[k] := by simp [cg, h]
theorem cg_mem {l : List (List Li)} {k : Nat} (h : k < l.length) : cg l k ∈ l := by rw [cg_lt h]; exact List.getElem_mem h
/-- A list of clauses that came in. -/
abbrev IsCs (w : World) (l : List (List Li)) (a : Option Addr) : Prop := InRow eltC (fun _ => True) w l a
theorem InRow.openC {w : World} {l : List (List Li)} {a : Option Addr} (h : IsCs w l a) : ∃ (b o : Nat) (A : Nat → Option Addr) (C : Nat → Nat), (∀ k, k < l.length → a = some ⟨b, o, none⟩) ∧
  ∀ k, k < l.length → w.cell? ⟨b, o + k, none⟩ = some (.slice (A k) (cg l k).length (C k)) ∧ IsLs w (cg l k) (A k) ∧ (cg l k).length ≤ C k ∧ C k ≤ maxLen := by
 rcases Nat.eq_zero_or_pos l.length with h0 | h0
 ·exact ⟨0, 0, fun _ => none, fun _ => 0, fun k hk => by omega, fun k hk => by omega⟩
 ·obtain ⟨b, o, _, ha, _⟩ := h 0 h0
  have key : ∀ k, k < l.length → ∃ p : Option Addr × Nat, w.cell? ⟨b, o + k, none⟩ = some (.slice p.1 (cg l k).length p.2) ∧ IsLs w (cg l k) p.1 ∧ (cg l k).length ≤ p.2 ∧ p.2 ≤ maxLen := by
   intro k hk
   obtain ⟨b', o', cs, ha', _, ⟨p, c, rfl, h1, h2, h3⟩, h4⟩ := h k hk
   rw [ha] at ha'
   simp only [Option.some.injEq, Addr.mk.injEq, and_true] at ha'
   obtain ⟨rfl, rfl⟩ := ha'
   rw [cg_lt hk]
   have z := h4 0 (by decide)
   exact ⟨(p, c), by simpa [eltC] using z, h3, h1, h2⟩
  have : Inhabited (Option Addr × Nat) := ⟨(none, 0)⟩
  obtain ⟨F, hF⟩ := Go.Deep.choose_lt key
  exact ⟨b, o, fun k => (F k).1, fun k => (F k).2, fun _ _ => ha, hF⟩
/-- Clauses that are no larger than may be. -/
def ClsOk (l : List (List Li)) : Prop := ∀ c ∈ l, c.length ≤ 1048576 ∧ ∀ x ∈ c, x.l.size ≤ 4294967296 ∧ x.r.size ≤ 4294967296
def cutBy : List (List Li) → List Li → Option (Int × List Li)
 | [], _ => none
 | c :: r, d => match cutO c d with
  | some x => some x
  | none => cutBy r d
theorem cutBy_none {l : List (List Li)} {d : List Li} {k : Nat} (hk : k < l.length) (h : cutO (cg l k) d = none) : cutBy (l.drop k) d = cutBy (l.drop (k + 1)) d := by
 rw [List.drop_eq_getElem_cons hk, cutBy, ← cg_lt hk, h]
theorem cutBy_some {l : List (List Li)} {d : List Li} {k : Nat} {x : Int × List Li} (hk : k < l.length) (h : cutO (cg l k) d = some x) : cutBy (l.drop k) d = some x := by
 rw [List.drop_eq_getElem_cons hk, cutBy, ← cg_lt hk, h]
set_option maxRecDepth 100000 in
theorem cutby_any (l : List (List Li)) (d : List Li) (w : World) (la da : Option Addr) (lc dc : Nat) (h : IsCs w l la) (hln : l.length ≤ 1048576) (hok : ClsOk l) (hd : IsCl w d da dc) (hld : d.length ≤ 1048576) :
  Calls Try.prog 15 #[.slice la l.length lc, .slice da d.length dc] w (Ret fun v' w' => WayV w w' (cutBy l d) v' ∧ Below w.heap.size w w') := by
 have hcap2 := hd.cap
 refine Calls.walk (l := [.slice la l.length lc, .slice da d.length dc]) Try.func15 rfl (by kernel_rfl) ?_
 refine WC.sub (K' := [(0, .slice la l.length lc), (1, .slice da d.length dc)]) ⟨rfl, rfl, trivial⟩ ?_
 refine WC.seq (WC.region ?_)
 refine WL.step (post := NewBlk w 40 #[.int .i64 0, .slice none 0 0, .slice none 0 0, .slice none 0 0, .slice none 0 0, .slice none 0 0]) rfl rfl rfl (fun za zC zh zk => alloc_40 rfl (zk _ _ (newBlk _ _ _))) ?_
 rintro _ w1 ⟨g2, rfl, hg3, hB4, hb5, hz6⟩
 have hl7 : w.heap.size ≤ g2 := by omega
 refine WL.asg rfl rfl rfl rfl rfl (WL.nil (WE.next (WC.seq (WC.seq (WC.region (WL.mv rfl rfl rfl rfl rfl ?_))))))
 refine WL.val (.int .i64 (((l.length : Nat) : Int))) rfl rfl rfl (fun za zC zh zk => len_45 rfl (zh.ev rfl) zk) ?_
 refine WL.mv rfl rfl rfl rfl rfl (WL.nil (WE.next (WC.block ?_)))
 refine WC.loop (X := Nat) (fun k => l.length - k) (fun k => [(0, .slice la l.length lc), (1, .slice da d.length dc), (4, .pointer (some ⟨g2, 0, none⟩)), (10, .slice la l.length lc), (11, .int .i64 (((l.length : Nat) : Int))), (12, .int .i64 (((k : Nat) : Int)))]) (fun k w8 => k ≤ l.length ∧ cutBy l d = cutBy (l.drop k) d ∧ Below w.heap.size w w8 ∧ Blk w8 g2 40 #[.int .i64 0, .slice none 0 0, .slice none 0 0, .slice none 0 0, .slice none 0 0, .slice none 0 0]) 0 ⟨rfl, rfl, rfl, rfl, rfl, rfl, trivial⟩ ?_ ?_
 ·exact ⟨Nat.zero_le _, rfl, hb5, hB4⟩
 ·rintro k w8 ⟨hk, hC, hb9, hB10⟩
  refine WC.seq (WC.region ?_)
  refine WL.val (.bool ((decide ((((k : Nat) : Int) : Int) < (((l.length : Nat) : Int) : Int))))) rfl rfl rfl (fun za zC zh zk => lss_3 rfl (zh.ev rfl) (zh.ev rfl) zk) ?_
  refine WL.nil (WE.next (WC.seq ?_))
  refine WC.cond rfl (fun h11 => ?_) (fun h11 => ?_)
  ·have h11 : (((k : Nat) : Int) : Int) < (((l.length : Nat) : Int) : Int) := by simpa using h11
   refine WC.skip (WE.next (WC.seq (WC.block (WC.seq (WC.region (WL.mv rfl rfl rfl rfl rfl ?_))))))
   obtain ⟨b12, o13, A14, C15, ha16, hc17⟩ := InRow.openC h
   refine WL.val _ rfl rfl rfl (fun za zC zh zk => ix_45 (k := k) rfl (zh.ev rfl) (ha16 k (by first | omega | (simp; omega))) (zh.ev rfl) (by first | omega | (simp; omega)) zk) ?_
   refine WL.val _ rfl rfl rfl (fun za zC zh zk => ld_29 rfl (zh.ev rfl) (bkeeps hb9 _ _ (hc17 k (by first | omega | (simp; omega))).1) zk) ?_
   refine WL.asg rfl rfl rfl rfl rfl (WL.asg rfl rfl rfl rfl rfl (WL.nil (WE.next (WC.seq (WC.region (WL.mv rfl rfl rfl rfl rfl (WL.mv rfl rfl rfl rfl rfl ?_)))))))
   have hkl : k < l.length := by omega
   have hok9 := hok _ (cg_mem hkl)
   refine WL.call rfl rfl rfl (fun za zh zC => wp_call (by kernel_rfl) rfl (hv2 (zh.ev rfl) (zh.ev rfl))) (cut_any (cg l k) d _ _ _ _ _ (IsCl.below ⟨(hc17 k hkl).2.1, (hc17 k hkl).2.2.1, (hc17 k hkl).2.2.2, by omega, fun x hx => (hok9.2 x hx).1, fun x hx => (hok9.2 x hx).2⟩ hb9) (hd.below hb9) hok9.1 hld) ?_
   rintro v19 w18 ⟨hto20, hb21⟩
   rcases hf23 : cutO (cg l k) d with _ | t22
   ·rw [hf23] at hto20
    obtain rfl : v19 = .tuple #[.agg #[.int .i64 0, .slice none 0 0, .slice none 0 0, .slice none 0 0, .slice none 0 0, .slice none 0 0], .bool false] := hto20
    refine WL.mv rfl rfl rfl rfl rfl ?_
    refine WL.val (.agg #[.int .i64 0, .slice none 0 0, .slice none 0 0, .slice none 0 0, .slice none 0 0, .slice none 0 0]) rfl rfl rfl (fun za zC zh zk => ext2_0 rfl (zh.ev rfl) zk) ?_
    refine WL.val (.bool false) rfl rfl rfl (fun za zC zh zk => ext2_1 rfl (zh.ev rfl) zk) ?_
    refine WL.step (post := NewBlk w18 40 #[.int .i64 0, .slice none 0 0, .slice none 0 0, .slice none 0 0, .slice none 0 0, .slice none 0 0]) rfl rfl rfl (fun za zC zh zk => alloc_40 rfl (zk _ _ (newBlk _ _ _))) ?_
    rintro _ w24 ⟨g25, rfl, hg26, hB27, hb28, hz29⟩
    have hl30 : g2 < g25 := by have z1 := hB10.lt; have z2 := (hb21).size; omega
    have hb31 : Below w.heap.size w w18 := (bstep hb9 hb21)
    have hl32 : w.heap.size ≤ g25 := by have z2 := (hb31).size; omega
    refine WL.step (post := fun _ w' => Upd g25 w24 w' ∧ Blk w' g25 40 #[.int .i64 0, .slice none 0 0, .slice none 0 0, .slice none 0 0, .slice none 0 0, .slice none 0 0]) rfl rfl rfl (fun za zC zh zk => st_40 rfl (zh.ev rfl) (zh.ev rfl) rfl rfl rfl rfl rfl rfl hB27 (by first | decide | simp) (fun v => zk v _ ⟨(((((Upd.at_ _ _ _ _).trans (Upd.at_ _ _ _ _)).trans (Upd.at_ _ _ _ _)).trans (Upd.at_ _ _ _ _)).trans (Upd.at_ _ _ _ _)).trans (Upd.at_ _ _ _ _), (((((hB27.set_ 0 _).set_ 1 _).set_ 2 _).set_ 3 _).set_ 4 _).set_ 5 _⟩)) ?_
    rintro v36 w33 ⟨hu34, hB35⟩
    have hb37 : Below w.heap.size w w24 := (bstep hb31 hb28)
    have hb38 := upd_below hb37 hu34 (by omega)
    have hb40 : Below w8.heap.size w8 w24 := (bstep hb21 hb28)
    have hB39 := hB10.below hb40
    have hB41 := upd_blk hB39 hu34 (by omega)
    refine WL.asg rfl rfl rfl rfl rfl (WL.nil (WE.next (WC.seq (WC.region (WL.mv rfl rfl rfl rfl rfl (WL.nil (WE.next ?_)))))))
    refine WC.condF rfl rfl ?_
    refine WC.skip (WE.blockNormal (WE.next (WC.region ?_)))
    refine WL.val (.int .i64 ((((k + 1) : Nat) : Int))) rfl rfl rfl (fun za zC zh zk => addb_3 rfl (zh.ev rfl) (zh.ev rfl) (wrap_eq (by omega) (by omega) (by omega)) zk) ?_
    refine WL.mv rfl rfl rfl rfl rfl (WL.nil ?_)
    refine WE.round (k + 1) ⟨rfl, rfl, rfl, rfl, rfl, rfl, trivial⟩ ?_ ?_
    ·exact ⟨by omega, hC.trans (cutBy_none hkl hf23), hb38, hB41⟩
    ·omega
   ·rw [hf23] at hto20
    obtain ⟨_, rfl, p42, p43, p44, n45, c46, n47, c48, c49, rfl, hN50⟩ := hto20
    refine WL.mv rfl rfl rfl rfl rfl ?_
    refine WL.val (.agg #[.int .i64 t22.1, .slice p42 n45 c46, .slice p43 n47 c48, .slice none 0 0, .slice none 0 0, .slice p44 t22.2.length c49]) rfl rfl rfl (fun za zC zh zk => ext2_0 rfl (zh.ev rfl) zk) ?_
    refine WL.val (.bool true) rfl rfl rfl (fun za zC zh zk => ext2_1 rfl (zh.ev rfl) zk) ?_
    refine WL.step (post := NewBlk w18 40 #[.int .i64 0, .slice none 0 0, .slice none 0 0, .slice none 0 0, .slice none 0 0, .slice none 0 0]) rfl rfl rfl (fun za zC zh zk => alloc_40 rfl (zk _ _ (newBlk _ _ _))) ?_
    rintro _ w51 ⟨g52, rfl, hg53, hB54, hb55, hz56⟩
    have hl57 : g2 < g52 := by have z1 := hB10.lt; have z2 := (hb21).size; omega
    have hb58 : Below w.heap.size w w18 := (bstep hb9 hb21)
    have hl59 : w.heap.size ≤ g52 := by have z2 := (hb58).size; omega
    refine WL.step (post := fun _ w' => Upd g52 w51 w' ∧ Blk w' g52 40 #[.int .i64 t22.1, .slice p42 n45 c46, .slice p43 n47 c48, .slice none 0 0, .slice none 0 0, .slice p44 t22.2.length c49]) rfl rfl rfl (fun za zC zh zk => st_40 rfl (zh.ev rfl) (zh.ev rfl) rfl rfl rfl rfl rfl rfl hB54 (by first | decide | simp) (fun v => zk v _ ⟨(((((Upd.at_ _ _ _ _).trans (Upd.at_ _ _ _ _)).trans (Upd.at_ _ _ _ _)).trans (Upd.at_ _ _ _ _)).trans (Upd.at_ _ _ _ _)).trans (Upd.at_ _ _ _ _), (((((hB54.set_ 0 _).set_ 1 _).set_ 2 _).set_ 3 _).set_ 4 _).set_ 5 _⟩)) ?_
    rintro v63 w60 ⟨hu61, hB62⟩
    have hb64 : Below w.heap.size w w51 := (bstep hb58 hb55)
    have hb65 := upd_below hb64 hu61 (by omega)
    have hb67 : Below w8.heap.size w8 w51 := (bstep hb21 hb55)
    have hB66 := hB10.below hb67
    have hB68 := upd_blk hB66 hu61 (by omega)
    refine WL.asg rfl rfl rfl rfl rfl (WL.nil (WE.next (WC.seq (WC.region (WL.mv rfl rfl rfl rfl rfl (WL.nil (WE.next ?_)))))))
    refine WC.condT rfl rfl ?_
    refine WC.seq (WC.region (WL.mv rfl rfl rfl rfl rfl ?_))
    refine WL.step (post := NewRow w60 3 #[.int .i64 (((k : Nat) : Int)), .int .i64 0] 2) rfl rfl rfl (fun za zC zh zk => row_36_2 rfl (zh.ev rfl) (zh.ev rfl) (zk _ _ (newRow _ _ _ _))) ?_
    rintro _ w69 ⟨g70, rfl, hg71, hB72, hb73, hz74⟩
    have hl75 : g2 < g70 := by have z1 := hB68.lt; omega
    have hl76 : g52 < g70 := by have z1 := hB62.lt; omega
    have hl77 : w.heap.size ≤ g70 := by have z2 := (hb65).size; omega
    refine WL.val _ rfl rfl rfl (fun za zC zh zk => fld_40_1 rfl (zh.ev rfl) zk) ?_
    have hB78 := hB62.below hb73
    refine WL.step (post := fun _ w' => Upd g52 w69 w' ∧ Blk w' g52 40 #[.int .i64 t22.1, .slice ((some ⟨g70, 0, none⟩)) 2 2, .slice p43 n47 c48, .slice none 0 0, .slice none 0 0, .slice p44 t22.2.length c49]) rfl rfl rfl (fun za zC zh zk => st_36 rfl (zh.ev rfl) (zh.ev rfl) hB78 (by first | decide | simp) (fun v => zk v _ ⟨Upd.at_ _ _ _ _, hB78.set_ 1 _⟩)) ?_
    rintro v82 w79 ⟨hu80, hB81⟩
    have hb83 : Below w.heap.size w w69 := (bstep hb65 hb73)
    have hb84 := upd_below hb83 hu80 (by omega)
    have hB85 := hB68.below hb73
    have hB86 := upd_blk hB85 hu80 (by omega)
    have hB87 := upd_blk hB72 hu80 (by omega)
    refine WL.nil (WE.next (WC.seq (WC.region ?_)))
    refine WL.val _ rfl rfl rfl (fun za zC zh zk => ld_40 rfl (zh.ev rfl) ((hB81.cell 0).trans rfl) ((hB81.cell 1).trans rfl) ((hB81.cell 2).trans rfl) ((hB81.cell 3).trans rfl) ((hB81.cell 4).trans rfl) ((hB81.cell 5).trans rfl) zk) ?_
    refine WL.step (post := fun _ w' => Upd g2 w79 w' ∧ Blk w' g2 40 #[.int .i64 t22.1, .slice ((some ⟨g70, 0, none⟩)) 2 2, .slice p43 n47 c48, .slice none 0 0, .slice none 0 0, .slice p44 t22.2.length c49]) rfl rfl rfl (fun za zC zh zk => st_40 rfl (zh.ev rfl) (zh.ev rfl) rfl rfl rfl rfl rfl rfl hB86 (by first | decide | simp) (fun v => zk v _ ⟨(((((Upd.at_ _ _ _ _).trans (Upd.at_ _ _ _ _)).trans (Upd.at_ _ _ _ _)).trans (Upd.at_ _ _ _ _)).trans (Upd.at_ _ _ _ _)).trans (Upd.at_ _ _ _ _), (((((hB86.set_ 0 _).set_ 1 _).set_ 2 _).set_ 3 _).set_ 4 _).set_ 5 _⟩)) ?_
    rintro v91 w88 ⟨hu89, hB90⟩
    have hb92 := upd_below hb84 hu89 (by omega)
    have hB93 := upd_blk hB81 hu89 (by omega)
    have hB94 := upd_blk hB87 hu89 (by omega)
    refine WL.asg rfl rfl rfl rfl rfl (WL.nil (WE.next (WC.ret (WE.blockRet (WE.thenRet (WE.thenRet (WE.blockRet (WE.thenRet ?_))))))))
    refine WE.retAny (v := .tuple #[.agg #[.int .i64 t22.1, .slice ((some ⟨g70, 0, none⟩)) 2 2, .slice p43 n47 c48, .slice none 0 0, .slice none 0 0, .slice p44 t22.2.length c49], .bool true]) (fun za zh => ?_) ?_
    ·have z0 : za.tmps[4]?.getD undef = .pointer (some ⟨g2, 0, none⟩) := by rw [← Array.getD_eq_getD_getElem?]; exact zh.knows 4 _ rfl
     have y0_0 : w88.cell? ⟨g2, 0, none⟩ = some (.int .i64 t22.1) := ((hB90.cell 0).trans rfl)
     have y0_1 : w88.cell? ⟨g2, 1, none⟩ = some (.slice ((some ⟨g70, 0, none⟩)) 2 2) := ((hB90.cell 1).trans rfl)
     have y0_2 : w88.cell? ⟨g2, 2, none⟩ = some (.slice p43 n47 c48) := ((hB90.cell 2).trans rfl)
     have y0_3 : w88.cell? ⟨g2, 3, none⟩ = some (.slice none 0 0) := ((hB90.cell 3).trans rfl)
     have y0_4 : w88.cell? ⟨g2, 4, none⟩ = some (.slice none 0 0) := ((hB90.cell 4).trans rfl)
     have y0_5 : w88.cell? ⟨g2, 5, none⟩ = some (.slice p44 t22.2.length c49) := ((hB90.cell 5).trans rfl)
     have z1 : za.tmps[5]?.getD undef = .bool true := by rw [← Array.getD_eq_getD_getElem?]; exact zh.knows 5 _ rfl
     simp [results, Try.results15, z0, y0_0, y0_1, y0_2, y0_3, y0_4, y0_5, z1, go_sem]
    ·have ho := hC.trans (cutBy_some hkl hf23)
     have hs95 : Chg ((fun b => b = g2)) w18 w88 := (Chg.trans2 (Chg.trans2 (Chg.trans2 (Chg.trans2 (Chg.trans2 (Chg.refl ((fun b => b = g2)) _) (Chg.ofBelow (S := fun k => k < 0) hb55) (fun i h1 h2 => by first | exact h2 | exact .inl ⟨h2, h1⟩ | exact .inl h2 | exact .inr h2 | exact .inr (.inl h2) | exact .inr (.inr h2) | ((try dsimp only at *); omega))) (Chg.ofUpd (S := fun k => k = g52) hu61 rfl) (fun i h1 h2 => by first | exact h2 | exact .inl ⟨h2, h1⟩ | exact .inl h2 | exact .inr h2 | exact .inr (.inl h2) | exact .inr (.inr h2) | ((try dsimp only at *); omega))) (Chg.ofBelow (S := fun k => k < 0) hb73) (fun i h1 h2 => by first | exact h2 | exact .inl ⟨h2, h1⟩ | exact .inl h2 | exact .inr h2 | exact .inr (.inl h2) | exact .inr (.inr h2) | ((try dsimp only at *); omega))) (Chg.ofUpd (S := fun k => k = g52) hu80 rfl) (fun i h1 h2 => by first | exact h2 | exact .inl ⟨h2, h1⟩ | exact .inl h2 | exact .inr h2 | exact .inr (.inl h2) | exact .inr (.inr h2) | ((try dsimp only at *); omega))) (Chg.ofUpd (S := fun k => k = g2) hu89 rfl) (fun i h1 h2 => by first | exact h2 | exact .inl ⟨h2, h1⟩ | exact .inl h2 | exact .inr h2 | exact .inr (.inl h2) | exact .inr (.inr h2) | ((try dsimp only at *); omega)))
     exact ⟨_, rfl, by rw [ho]; exact ⟨_, rfl, _, _, _, _, _, _, _, _, rfl, (hN50.chg hs95 (fun b hb e => by have z := hB10.lt; (try dsimp only at *); omega)).older (hb9).size⟩, hb92⟩
  ·have h11 : ¬ ((((k : Nat) : Int) : Int) < (((l.length : Nat) : Int) : Int)) := by simpa using h11
   refine WC.exit (WE.thenExit (WE.thenExit (WE.blockIs rfl (WE.next (WC.seq (WC.region ?_))))))
   refine WL.val (.agg #[.int .i64 0, .slice none 0 0, .slice none 0 0, .slice none 0 0, .slice none 0 0, .slice none 0 0]) rfl rfl rfl (fun za zC zh zk => build_40_ rfl  zk) ?_
   refine WL.step (post := fun _ w' => Upd g2 w8 w' ∧ Blk w' g2 40 #[.int .i64 0, .slice none 0 0, .slice none 0 0, .slice none 0 0, .slice none 0 0, .slice none 0 0]) rfl rfl rfl (fun za zC zh zk => st_40 rfl (zh.ev rfl) (zh.ev rfl) rfl rfl rfl rfl rfl rfl hB10 (by first | decide | simp) (fun v => zk v _ ⟨(((((Upd.at_ _ _ _ _).trans (Upd.at_ _ _ _ _)).trans (Upd.at_ _ _ _ _)).trans (Upd.at_ _ _ _ _)).trans (Upd.at_ _ _ _ _)).trans (Upd.at_ _ _ _ _), (((((hB10.set_ 0 _).set_ 1 _).set_ 2 _).set_ 3 _).set_ 4 _).set_ 5 _⟩)) ?_
   rintro v99 w96 ⟨hu97, hB98⟩
   have hb100 := upd_below hb9 hu97 (by omega)
   refine WL.asg rfl rfl rfl rfl rfl (WL.nil (WE.next (WC.ret ?_)))
   refine WE.retAny (v := .tuple #[.agg #[.int .i64 0, .slice none 0 0, .slice none 0 0, .slice none 0 0, .slice none 0 0, .slice none 0 0], .bool false]) (fun za zh => ?_) ?_
   ·have z0 : za.tmps[4]?.getD undef = .pointer (some ⟨g2, 0, none⟩) := by rw [← Array.getD_eq_getD_getElem?]; exact zh.knows 4 _ rfl
    have y0_0 : w96.cell? ⟨g2, 0, none⟩ = some (.int .i64 0) := ((hB98.cell 0).trans rfl)
    have y0_1 : w96.cell? ⟨g2, 1, none⟩ = some (.slice none 0 0) := ((hB98.cell 1).trans rfl)
    have y0_2 : w96.cell? ⟨g2, 2, none⟩ = some (.slice none 0 0) := ((hB98.cell 2).trans rfl)
    have y0_3 : w96.cell? ⟨g2, 3, none⟩ = some (.slice none 0 0) := ((hB98.cell 3).trans rfl)
    have y0_4 : w96.cell? ⟨g2, 4, none⟩ = some (.slice none 0 0) := ((hB98.cell 4).trans rfl)
    have y0_5 : w96.cell? ⟨g2, 5, none⟩ = some (.slice none 0 0) := ((hB98.cell 5).trans rfl)
    have z1 : za.tmps[5]?.getD undef = .bool false := by rw [← Array.getD_eq_getD_getElem?]; exact zh.knows 5 _ rfl
    simp [results, Try.results15, z0, y0_0, y0_1, y0_2, y0_3, y0_4, y0_5, z1, go_sem]
   ·have ho : cutBy l d = none := by rw [hC, List.drop_of_length_le (by omega)]; rfl
    exact ⟨_, rfl, by rw [ho]; rfl, hb100⟩
end Go.Proofs.Ytnmopmdpnpcdhaa
