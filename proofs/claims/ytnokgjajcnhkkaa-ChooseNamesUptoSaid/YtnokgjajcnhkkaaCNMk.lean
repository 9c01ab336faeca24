/- Arguments of a law, opened: signatures, orders, literals. -/
import Derived.Test.YtnokgjajcnhkkaaCNMj
import Derived.Test.YtnokgjajcnhkkaaCNMi
import Derived.Test.YtnokgjajcnhkkaaCNMb
import Derived.Test.YtnokgjajcnhkkaaCNMa
import Derived.Test.YtnokgjajcnhkkaaCNMc

/- Names of variables, sides that are turned: the walk through the law. -/
namespace Go.Proofs.Ytnokgjajcnhkkaa
open Go.RowKit Go
set_option linter.unusedVariables false
set_option linter.unusedSimpArgs false
set_option maxRecDepth 100000 in
theorem num_same (L : List Int) (w : World) (a b : Option Addr) (c e : Nat) (h1 : IsInts w L a) (h2 : IsInts w L b) (hz : L.length ≤ 4294967296) : Calls Try.prog 13 #[.slice a L.length c, .slice b L.length e] w (Ret fun v' w' => v' = .bool true ∧ Below w.heap.size w w') := by
 refine Calls.walk (l := [.slice a L.length c, .slice b L.length e]) Try.func13 rfl (by kernel_rfl) ?_
 refine WC.sub (K' := [(0, .slice a L.length c), (1, .slice b L.length e)]) ⟨rfl, rfl, trivial⟩ ?_
 refine WC.seq (WC.region (WL.asg rfl rfl rfl rfl rfl (WL.nil (WE.next (WC.seq (WC.seq (WC.region (WL.mv rfl rfl rfl rfl rfl ?_))))))))
 refine WL.val (.int .i64 (((L.length : Nat) : Int))) rfl rfl rfl (fun za zC zh zk => len_22 rfl (zh.ev rfl) zk) ?_
 refine WL.mv rfl rfl rfl rfl rfl ?_
 refine WL.val (.int .i64 (((L.length : Nat) : Int))) rfl rfl rfl (fun za zC zh zk => len_22 rfl (zh.ev rfl) zk) ?_
 refine WL.val (.bool (((((L.length : Nat) : Int) : Int) != (((L.length : Nat) : Int) : Int)))) rfl rfl rfl (fun za zC zh zk => neq_3 rfl (zh.ev rfl) (zh.ev rfl) zk) ?_
 refine WL.nil (WE.next ?_)
 refine WC.condF rfl (by simp) ?_
 refine WC.skip (WE.next (WC.seq (WC.seq (WC.region (WL.mv rfl rfl rfl rfl rfl ?_)))))
 refine WL.val (.int .i64 (((L.length : Nat) : Int))) rfl rfl rfl (fun za zC zh zk => len_22 rfl (zh.ev rfl) zk) ?_
 refine WL.mv rfl rfl rfl rfl rfl (WL.nil (WE.next (WC.block ?_)))
 refine WC.loop (X := Nat) (fun k => L.length - k) (fun k => [(0, .slice a L.length c), (1, .slice b L.length e), (10, .bool (((((L.length : Nat) : Int) : Int) != (((L.length : Nat) : Int) : Int)))), (12, .int .i64 (((L.length : Nat) : Int))), (13, .int .i64 (((k : Nat) : Int)))]) (fun k w1 => k ≤ L.length ∧ Below w.heap.size w w1) 0 ⟨rfl, rfl, rfl, rfl, rfl, trivial⟩ ?_ ?_
 ·exact ⟨Nat.zero_le _, (Below.refl _ _)⟩
 ·rintro k w1 ⟨hk, hb2⟩
  refine WC.seq (WC.region ?_)
  refine WL.val (.bool ((decide ((((k : Nat) : Int) : Int) < (((L.length : Nat) : Int) : Int))))) rfl rfl rfl (fun za zC zh zk => lss_3 rfl (zh.ev rfl) (zh.ev rfl) zk) ?_
  refine WL.nil (WE.next (WC.seq ?_))
  refine WC.cond rfl (fun h3 => ?_) (fun h3 => ?_)
  ·have h3 : (((k : Nat) : Int) : Int) < (((L.length : Nat) : Int) : Int) := by simpa using h3
   refine WC.skip (WE.next (WC.seq (WC.block (WC.seq (WC.region (WL.mv rfl rfl rfl rfl rfl (WL.asg rfl rfl rfl rfl rfl (WL.nil (WE.next (WC.seq ?_))))))))))
   obtain ⟨b4, o5, ha6, hc7⟩ := IsInts.open h1
   obtain ⟨b8, o9, ha10, hc11⟩ := IsInts.open h2
   refine WC.opt [(true, .val (.slice a L.length c)), (true, .val (.int .i64 (((k : Nat) : Int)))), (true, .val (.pointer (some ⟨b4, o5 + k, none⟩))), (true, .val (.int .i64 ((iget L k)))), (true, .val (.slice b L.length e)), (true, .val (.int .i64 (((k : Nat) : Int)))), (true, .val (.pointer (some ⟨b8, o9 + k, none⟩))), (true, .val (.int .i64 ((iget L k)))), (true, .val (.bool ((((iget L k) : Int) != ((iget L k) : Int)))))] [(0, .slice a L.length c), (1, .slice b L.length e), (5, .int .i64 (((k : Nat) : Int))), (10, .bool (((((L.length : Nat) : Int) : Int) != (((L.length : Nat) : Int) : Int)))), (12, .int .i64 (((L.length : Nat) : Int))), (13, .int .i64 (((k : Nat) : Int))), (14, .bool ((decide ((((k : Nat) : Int) : Int) < (((L.length : Nat) : Int) : Int)))))] ⟨rfl, rfl, rfl, rfl, rfl, rfl, rfl, trivial⟩ (by kernel_rfl) (by kernel_rfl) (by kernel_rfl) ?_ ?_
   ·refine ⟨⟨true, .none rfl, fun h w => optUndef h, fun zβ za zw zc => ?_⟩, ?_⟩
    ·exact wp_move rfl (zc.kn.ev rfl) ⟨_, rfl, Below.refl _ _, optDef zβ rfl⟩
    refine ⟨⟨true, .none rfl, fun h w => optUndef h, fun zβ za zw zc => ?_⟩, ?_⟩
    ·exact wp_move rfl (zc.kn.ev rfl) ⟨_, rfl, Below.refl _ _, optDef zβ rfl⟩
    refine ⟨⟨true, .none rfl, fun h w => optUndef h, fun zβ za zw zc => ?_⟩, ?_⟩
    ·exact ix_22 (k := k) rfl ((evt za 16).trans (optVal (zc.dep 0 16 (by kernel_rfl)) rfl rfl)) (ha6 k (by first | omega | (simp; omega))) ((evt za 17).trans (optVal (zc.dep 1 17 (by kernel_rfl)) rfl rfl)) (by first | omega | (simp; omega)) ⟨_, rfl, Below.refl _ _, optDef zβ rfl⟩
    refine ⟨⟨true, .none rfl, fun h w => optUndef h, fun zβ za zw zc => ?_⟩, ?_⟩
    ·exact ld_3 rfl ((evt za 18).trans (optVal (zc.dep 2 18 (by kernel_rfl)) rfl rfl)) (bkeeps (bstep hb2 zc.below) _ _ (hc7 k (by first | omega | (simp; omega)))) ⟨_, rfl, Below.refl _ _, optDef zβ rfl⟩
    refine ⟨⟨true, .none rfl, fun h w => optUndef h, fun zβ za zw zc => ?_⟩, ?_⟩
    ·exact wp_move rfl (zc.kn.ev rfl) ⟨_, rfl, Below.refl _ _, optDef zβ rfl⟩
    refine ⟨⟨true, .none rfl, fun h w => optUndef h, fun zβ za zw zc => ?_⟩, ?_⟩
    ·exact wp_move rfl (zc.kn.ev rfl) ⟨_, rfl, Below.refl _ _, optDef zβ rfl⟩
    refine ⟨⟨true, .none rfl, fun h w => optUndef h, fun zβ za zw zc => ?_⟩, ?_⟩
    ·exact ix_22 (k := k) rfl ((evt za 20).trans (optVal (zc.dep 4 20 (by kernel_rfl)) rfl rfl)) (ha10 k (by first | omega | (simp; omega))) ((evt za 21).trans (optVal (zc.dep 5 21 (by kernel_rfl)) rfl rfl)) (by first | omega | (simp; omega)) ⟨_, rfl, Below.refl _ _, optDef zβ rfl⟩
    refine ⟨⟨true, .none rfl, fun h w => optUndef h, fun zβ za zw zc => ?_⟩, ?_⟩
    ·exact ld_3 rfl ((evt za 22).trans (optVal (zc.dep 6 22 (by kernel_rfl)) rfl rfl)) (bkeeps (bstep hb2 zc.below) _ _ (hc11 k (by first | omega | (simp; omega)))) ⟨_, rfl, Below.refl _ _, optDef zβ rfl⟩
    refine ⟨⟨true, .none rfl, fun h w => optUndef h, fun zβ za zw zc => ?_⟩, ?_⟩
    ·exact neq_3 rfl ((evt za 19).trans (optVal (zc.dep 3 19 (by kernel_rfl)) rfl rfl)) ((evt za 23).trans (optVal (zc.dep 7 23 (by kernel_rfl)) rfl rfl)) ⟨_, rfl, Below.refl _ _, optDef zβ rfl⟩
    exact trivial
   ·intro za w12 zh hb13 zu
    have zh := zh.cons (d := 24) (v := .bool ((((iget L k) : Int) != ((iget L k) : Int)))) (optVal (zu 8 24 (by kernel_rfl)) rfl rfl)
    clear zu
    refine WE.go zh ?_
    refine WE.next ?_
    refine WC.condF rfl (by simp) ?_
    refine WC.skip (WE.blockNormal (WE.next (WC.region ?_)))
    refine WL.val (.int .i64 ((((k + 1) : Nat) : Int))) rfl rfl rfl (fun za zC zh zk => addb_3 rfl (zh.ev rfl) (zh.ev rfl) (wrap_eq (by omega) (by omega) (by omega)) zk) ?_
    refine WL.mv rfl rfl rfl rfl rfl (WL.nil ?_)
    refine WE.round (k + 1) ⟨rfl, rfl, rfl, rfl, rfl, trivial⟩ ?_ ?_
    ·have hb14 : Below w.heap.size w w12 := (bstep hb2 hb13)
     exact ⟨by omega, hb14⟩
    ·omega
  ·have h3 : ¬ ((((k : Nat) : Int) : Int) < (((L.length : Nat) : Int) : Int)) := by simpa using h3
   refine WC.exit (WE.thenExit (WE.thenExit (WE.blockIs rfl (WE.next (WC.seq (WC.region (WL.asg rfl rfl rfl rfl rfl (WL.nil (WE.next (WC.ret (WE.ret1 rfl rfl ?_)))))))))))
   exact ⟨_, rfl, rfl, hb2⟩
set_option maxRecDepth 100000 in
theorem rturn_any (b0 : Bool) (f1 f2 : Int) (n1 n2 c1 c2 : Nat) (a1 a2 : Option Addr) (w : World) : Calls Try.prog 12 #[.agg #[.bool b0, .int .i64 f1, .slice a1 n1 c1, .int .i64 f2, .slice a2 n2 c2]] w (Ret fun v' w' => v' = .agg #[.bool b0, .int .i64 f2, .slice a2 n2 c2, .int .i64 f1, .slice a1 n1 c1] ∧ Below w.heap.size w w') := by
 refine Calls.walk (l := [.agg #[.bool b0, .int .i64 f1, .slice a1 n1 c1, .int .i64 f2, .slice a2 n2 c2]]) Try.func12 rfl (by kernel_rfl) ?_
 refine WC.sub (K' := [(0, .agg #[.bool b0, .int .i64 f1, .slice a1 n1 c1, .int .i64 f2, .slice a2 n2 c2])]) ⟨rfl, trivial⟩ ?_
 refine WC.seq (WC.region ?_)
 refine WL.step (post := NewBlk w 36 #[.bool b0, .int .i64 f1, .slice a1 n1 c1, .int .i64 f2, .slice a2 n2 c2]) rfl rfl rfl (fun za zC zh zk => box_36 rfl (zh.ev rfl) (zk _ _ (newBlk _ _ _))) ?_
 rintro _ w1 ⟨g2, rfl, hg3, hB4, hb5, hz6⟩
 have hl7 : w.heap.size ≤ g2 := by omega
 refine WL.step (post := NewBlk w1 36 #[.bool false, .int .i64 0, .slice none 0 0, .int .i64 0, .slice none 0 0]) rfl rfl rfl (fun za zC zh zk => alloc_36 rfl (zk _ _ (newBlk _ _ _))) ?_
 rintro _ w8 ⟨g9, rfl, hg10, hB11, hb12, hz13⟩
 have hl14 : g2 < g9 := by have z1 := hB4.lt; omega
 have hl15 : w.heap.size ≤ g9 := by have z2 := (hb5).size; omega
 refine WL.nil (WE.next (WC.seq (WC.region ?_)))
 refine WL.val _ rfl rfl rfl (fun za zC zh zk => fld_36_0 rfl (zh.ev rfl) zk) ?_
 have hB16 := hB4.below hb12
 refine WL.val _ rfl rfl rfl (fun za zC zh zk => ld_4 rfl (zh.ev rfl) ((hB16.cell 0).trans rfl) zk) ?_
 refine WL.val _ rfl rfl rfl (fun za zC zh zk => fld_36_2 rfl (zh.ev rfl) zk) ?_
 refine WL.val _ rfl rfl rfl (fun za zC zh zk => ld_34 rfl (zh.ev rfl) ((hB16.cell 3).trans rfl) ((hB16.cell 4).trans rfl) zk) ?_
 refine WL.val _ rfl rfl rfl (fun za zC zh zk => fld_36_1 rfl (zh.ev rfl) zk) ?_
 refine WL.val _ rfl rfl rfl (fun za zC zh zk => ld_34 rfl (zh.ev rfl) ((hB16.cell 1).trans rfl) ((hB16.cell 2).trans rfl) zk) ?_
 refine WL.val (.agg #[.bool b0, .int .i64 f2, .slice a2 n2 c2, .int .i64 f1, .slice a1 n1 c1]) rfl rfl rfl (fun za zC zh zk => build_36_0_1_2 rfl (zh.ev rfl) (zh.ev rfl) (zh.ev rfl) zk) ?_
 refine WL.step (post := fun _ w' => Upd g9 w8 w' ∧ Blk w' g9 36 #[.bool b0, .int .i64 f2, .slice a2 n2 c2, .int .i64 f1, .slice a1 n1 c1]) rfl rfl rfl (fun za zC zh zk => st_36 rfl (zh.ev rfl) (zh.ev rfl) rfl rfl rfl rfl rfl hB11 (by first | decide | simp) (fun v => zk v _ ⟨((((Upd.at_ _ _ _ _).trans (Upd.at_ _ _ _ _)).trans (Upd.at_ _ _ _ _)).trans (Upd.at_ _ _ _ _)).trans (Upd.at_ _ _ _ _), ((((hB11.set_ 0 _).set_ 1 _).set_ 2 _).set_ 3 _).set_ 4 _⟩)) ?_
 rintro v20 w17 ⟨hu18, hB19⟩
 have hb21 : Below w.heap.size w w8 := (bstep hb5 hb12)
 have hb22 := upd_below hb21 hu18 (by omega)
 have hB23 := upd_blk hB16 hu18 (by omega)
 refine WL.nil (WE.next (WC.ret ?_))
 refine WE.retAny (v := .agg #[.bool b0, .int .i64 f2, .slice a2 n2 c2, .int .i64 f1, .slice a1 n1 c1]) (fun za zh => ?_) ?_
 ·have z0 : za.tmps[2]?.getD undef = .pointer (some ⟨g9, 0, none⟩) := by rw [← Array.getD_eq_getD_getElem?]; exact zh.knows 2 _ rfl
  have y0 : w17.cell? ⟨g9, 0, none⟩ = some (.bool b0) := ((hB19.cell 0).trans rfl)
  have y1 : w17.cell? ⟨g9, 1, none⟩ = some (.int .i64 f2) := ((hB19.cell 1).trans rfl)
  have y2 : w17.cell? ⟨g9, 2, none⟩ = some (.slice a2 n2 c2) := ((hB19.cell 2).trans rfl)
  have y3 : w17.cell? ⟨g9, 3, none⟩ = some (.int .i64 f1) := ((hB19.cell 3).trans rfl)
  have y4 : w17.cell? ⟨g9, 4, none⟩ = some (.slice a1 n1 c1) := ((hB19.cell 4).trans rfl)
  simp [results, Try.results12, z0, y0, y1, y2, y3, y4, go_sem]
 ·exact ⟨_, rfl, rfl, hb22⟩
def smallAt (l : List Li) (q : Nat) : Bool := (lget l q).l.small 48 && (lget l q).r.small 48
def smallB (l : List Li) : Bool := decide (l.length ≤ 16) && (List.range l.length).all (smallAt l)
theorem smallB_low {l : List Li} (h : smallB l = true) : LowC l := by
 unfold smallB at h
 rw [Bool.and_eq_true, List.all_eq_true] at h
 intro i hi
 have := h.2 i (List.mem_range.2 hi)
 unfold smallAt T.small at this
 simp only [Bool.and_eq_true] at this
 exact ⟨this.1.2, this.2.2⟩
theorem smallB_no {l : List Li} {q : Nat} (hq : q < l.length) (h : smallAt l q = false) : smallB l = false := by
 unfold smallB
 rw [Bool.and_eq_false_iff, List.all_eq_false]
 exact .inr ⟨q, List.mem_range.2 hq, by rw [h]; exact Bool.false_ne_true⟩
theorem smallB_yes {l : List Li} (h1 : l.length ≤ 16) (h : ∀ q, q < l.length → smallAt l q = true) : smallB l = true := by
 unfold smallB
 rw [Bool.and_eq_true, List.all_eq_true]
 exact ⟨decide_eq_true h1, fun q hq => h q (List.mem_range.1 hq)⟩
set_option maxRecDepth 100000 in
theorem csmall_any (l : List Li) (w : World) (a : Option Addr) (c : Nat) (hl : IsCl w l a c) (hlz : l.length ≤ 1048576) : Calls Try.prog 9 #[.slice a l.length c, .int .i64 48] w (Ret fun v' w' => v' = .bool (smallB l) ∧ Below w.heap.size w w') := by
 have hr := hl.rows
 refine Calls.walk (l := [.slice a l.length c, .int .i64 48]) Try.func9 rfl (by kernel_rfl) ?_
 refine WC.sub (K' := [(0, .slice a l.length c), (1, .int .i64 48)]) ⟨rfl, rfl, trivial⟩ ?_
 refine WC.seq (WC.region (WL.asg rfl rfl rfl rfl rfl (WL.nil (WE.next (WC.seq (WC.seq (WC.region (WL.mv rfl rfl rfl rfl rfl ?_))))))))
 refine WL.val (.int .i64 (((l.length : Nat) : Int))) rfl rfl rfl (fun za zC zh zk => len_27 rfl (zh.ev rfl) zk) ?_
 refine WL.val (.bool ((decide ((16 : Int) < (((l.length : Nat) : Int) : Int))))) rfl rfl rfl (fun za zC zh zk => gtr_3 rfl (zh.ev rfl) (zh.ev rfl) zk) ?_
 refine WL.nil (WE.next ?_)
 refine WC.cond rfl (fun h1 => ?_) (fun h1 => ?_)
 ·have h1 : (16 : Int) < (((l.length : Nat) : Int) : Int) := by simpa using h1
  refine WC.seq (WC.region (WL.asg rfl rfl rfl rfl rfl (WL.nil (WE.next (WC.ret (WE.thenRet (WE.ret1 rfl rfl ?_)))))))
  exact ⟨_, rfl, congrArg Value.bool (by unfold smallB; rw [decide_eq_false (by omega)]; rfl), (Below.refl _ _)⟩
 ·have h1 : ¬ ((16 : Int) < (((l.length : Nat) : Int) : Int)) := by simpa using h1
  refine WC.skip (WE.next (WC.seq (WC.seq (WC.region (WL.asg rfl rfl rfl rfl rfl (WL.nil (WE.next (WC.block ?_))))))))
  refine WC.loop (X := Nat) (fun k => l.length - k) (fun k => [(0, .slice a l.length c), (1, .int .i64 48), (5, .int .i64 (((k : Nat) : Int))), (8, .bool ((decide ((16 : Int) < (((l.length : Nat) : Int) : Int)))))]) (fun k w2 => k ≤ l.length ∧ (∀ q, q < k → smallAt l q = true) ∧ Below w.heap.size w w2) 0 ⟨rfl, rfl, rfl, rfl, trivial⟩ ?_ ?_
  ·exact ⟨Nat.zero_le _, fun q h => absurd h (Nat.not_lt_zero q), (Below.refl _ _)⟩
  ·rintro k w2 ⟨hk, hall, hb3⟩
   refine WC.seq (WC.seq (WC.region (WL.mv rfl rfl rfl rfl rfl (WL.mv rfl rfl rfl rfl rfl ?_))))
   refine WL.val (.int .i64 (((l.length : Nat) : Int))) rfl rfl rfl (fun za zC zh zk => len_27 rfl (zh.ev rfl) zk) ?_
   refine WL.val (.bool ((decide ((((k : Nat) : Int) : Int) < (((l.length : Nat) : Int) : Int))))) rfl rfl rfl (fun za zC zh zk => lss_3 rfl (zh.ev rfl) (zh.ev rfl) zk) ?_
   refine WL.nil (WE.next ?_)
   refine WC.cond rfl (fun h4 => ?_) (fun h4 => ?_)
   ·have h4 : (((k : Nat) : Int) : Int) < (((l.length : Nat) : Int) : Int) := by simpa using h4
    refine WC.skip (WE.next (WC.seq (WC.block (WC.seq ?_))))
    obtain ⟨b5, o6, A7, C8, A9, C10, ha11, hc12⟩ := InRow.openL hr
    refine WC.opt [(true, .val (.slice a l.length c)), (true, .val (.int .i64 (((k : Nat) : Int)))), (true, .val (.pointer (some ⟨b5, o6 + k * 5, none⟩))), (true, .val (.pointer (some ⟨b5, o6 + k * 5 + 1, none⟩))), (true, .val (.agg #[.int .i64 ((lget l k).l.f), .slice ((A7 k)) ((lget l k).l.args.length) ((C8 k))])), (true, .val (.int .i64 48)), (true, .val (.bool ((((lget l k).l).small 48)))), (true, .val (.bool ((!(((lget l k).l).small 48))))), (true, .val (.bool ((!(((lget l k).l).small 48))))), ((true && !(!(((lget l k).l).small 48))), .val (.slice a l.length c)), ((true && !(!(((lget l k).l).small 48))), .val (.int .i64 (((k : Nat) : Int)))), ((true && !(!(((lget l k).l).small 48))), .val (.pointer (some ⟨b5, o6 + k * 5, none⟩))), ((true && !(!(((lget l k).l).small 48))), .val (.pointer (some ⟨b5, o6 + k * 5 + 3, none⟩))), ((true && !(!(((lget l k).l).small 48))), .val (.agg #[.int .i64 ((lget l k).r.f), .slice ((A9 k)) ((lget l k).r.args.length) ((C10 k))])), ((true && !(!(((lget l k).l).small 48))), .val (.int .i64 48)), ((true && !(!(((lget l k).l).small 48))), .val (.bool ((((lget l k).r).small 48)))), ((true && !(!(((lget l k).l).small 48))), .val (.bool ((!(((lget l k).r).small 48))))), (true, .val (.bool (((!(((lget l k).l).small 48)) || (!(((lget l k).r).small 48))))))] [(0, .slice a l.length c), (1, .int .i64 48), (5, .int .i64 (((k : Nat) : Int))), (8, .bool ((decide ((16 : Int) < (((l.length : Nat) : Int) : Int))))), (12, .bool ((decide ((((k : Nat) : Int) : Int) < (((l.length : Nat) : Int) : Int)))))] ⟨rfl, rfl, rfl, rfl, rfl, trivial⟩ (by kernel_rfl) (by kernel_rfl) (by kernel_rfl) ?_ ?_
    ·refine ⟨⟨true, .none rfl, fun h w => optUndef h, fun zβ za zw zc => ?_⟩, ?_⟩
     ·exact wp_move rfl (zc.kn.ev rfl) ⟨_, rfl, Below.refl _ _, optDef zβ rfl⟩
     refine ⟨⟨true, .none rfl, fun h w => optUndef h, fun zβ za zw zc => ?_⟩, ?_⟩
     ·exact wp_move rfl (zc.kn.ev rfl) ⟨_, rfl, Below.refl _ _, optDef zβ rfl⟩
     refine ⟨⟨true, .none rfl, fun h w => optUndef h, fun zβ za zw zc => ?_⟩, ?_⟩
     ·exact ix_27 (k := k) rfl ((evt za 15).trans (optVal (zc.dep 0 15 (by kernel_rfl)) rfl rfl)) (ha11 k (by first | omega | (simp; omega))) ((evt za 16).trans (optVal (zc.dep 1 16 (by kernel_rfl)) rfl rfl)) (by first | omega | (simp; omega)) ⟨_, rfl, Below.refl _ _, optDef zβ rfl⟩
     refine ⟨⟨true, .none rfl, fun h w => optUndef h, fun zβ za zw zc => ?_⟩, ?_⟩
     ·exact fld_36_1 rfl ((evt za 17).trans (optVal (zc.dep 2 17 (by kernel_rfl)) rfl rfl)) ⟨_, rfl, Below.refl _ _, optDef zβ rfl⟩
     refine ⟨⟨true, .none rfl, fun h w => optUndef h, fun zβ za zw zc => ?_⟩, ?_⟩
     ·exact ld_34 rfl ((evt za 18).trans (optVal (zc.dep 3 18 (by kernel_rfl)) rfl rfl)) (bkeeps (bstep hb3 zc.below) _ _ (hc12 k (by first | omega | (simp; omega))).2.1) (bkeeps (bstep hb3 zc.below) _ _ (hc12 k (by first | omega | (simp; omega))).2.2.1) ⟨_, rfl, Below.refl _ _, optDef zβ rfl⟩
     refine ⟨⟨true, .none rfl, fun h w => optUndef h, fun zβ za zw zc => ?_⟩, ?_⟩
     ·exact wp_move rfl (zc.kn.ev rfl) ⟨_, rfl, Below.refl _ _, optDef zβ rfl⟩
     refine ⟨⟨true, .none rfl, fun h w => optUndef h, fun zβ za zw zc => ?_⟩, ?_⟩
     ·exact wp_call (by kernel_rfl) rfl (hv2 ((evt za 19).trans (optVal (zc.dep 4 19 (by kernel_rfl)) rfl rfl)) ((evt za 20).trans (optVal (zc.dep 5 20 (by kernel_rfl)) rfl rfl))) (rsmall_any ((lget l k).l) 48 _ _ (by decide) (hl.pl (by omega)) (IsT.below (bstep hb3 zc.below) (InT.isT (hc12 k (by first | omega | (simp; omega))).2.2.2.2.2.1))) (fun v w' h => ⟨v, rfl, h.2, optDef zβ h.1⟩)
     refine ⟨⟨true, .none rfl, fun h w => optUndef h, fun zβ za zw zc => ?_⟩, ?_⟩
     ·exact wp_not rfl ((evt za 21).trans (optVal (zc.dep 6 21 (by kernel_rfl)) rfl rfl)) ⟨_, rfl, Below.refl _ _, optDef zβ rfl⟩
     refine ⟨⟨true, .none rfl, fun h w => optUndef h, fun zβ za zw zc => ?_⟩, ?_⟩
     ·exact wp_move rfl ((evt za 22).trans (optVal (zc.dep 7 22 (by kernel_rfl)) rfl rfl)) ⟨_, rfl, Below.refl _ _, optDef zβ rfl⟩
     refine ⟨⟨_, .no (c := (!(((lget l k).l).small 48))) (d := true) rfl (fun v w h => h), fun h w => optUndef h, fun zβ za zw zc => ?_⟩, ?_⟩
     ·exact wp_move rfl (zc.kn.ev rfl) ⟨_, rfl, Below.refl _ _, optDef zβ rfl⟩
     refine ⟨⟨_, .no (c := (!(((lget l k).l).small 48))) (d := true) rfl (fun v w h => h), fun h w => optUndef h, fun zβ za zw zc => ?_⟩, ?_⟩
     ·exact wp_move rfl (zc.kn.ev rfl) ⟨_, rfl, Below.refl _ _, optDef zβ rfl⟩
     refine ⟨⟨_, .no (c := (!(((lget l k).l).small 48))) (d := true) rfl (fun v w h => h), fun h w => optUndef h, fun zβ za zw zc => ?_⟩, ?_⟩
     ·exact ix_27 (k := k) rfl ((evt za 24).trans (optVal (zc.dep 9 24 (by kernel_rfl)) rfl zβ)) (ha11 k (by first | omega | (have zz := zβ; simp only [Bool.and_eq_true, Bool.or_eq_true, Bool.true_and, Bool.not_eq_true', Bool.or_eq_false_iff, Bool.and_eq_false_iff, beq_eq_false_iff_ne, ne_eq, beq_iff_eq, decide_eq_true_eq, decide_eq_false_iff_not, bne_iff_ne, bne_eq_false_iff_eq] at zz; omega))) ((evt za 25).trans (optVal (zc.dep 10 25 (by kernel_rfl)) rfl zβ)) (by first | omega | (have zz := zβ; simp only [Bool.and_eq_true, Bool.or_eq_true, Bool.true_and, Bool.not_eq_true', Bool.or_eq_false_iff, Bool.and_eq_false_iff, beq_eq_false_iff_ne, ne_eq, beq_iff_eq, decide_eq_true_eq, decide_eq_false_iff_not, bne_iff_ne, bne_eq_false_iff_eq] at zz; omega)) ⟨_, rfl, Below.refl _ _, optDef zβ rfl⟩
     refine ⟨⟨_, .no (c := (!(((lget l k).l).small 48))) (d := true) rfl (fun v w h => h), fun h w => optUndef h, fun zβ za zw zc => ?_⟩, ?_⟩
     ·exact fld_36_2 rfl ((evt za 26).trans (optVal (zc.dep 11 26 (by kernel_rfl)) rfl zβ)) ⟨_, rfl, Below.refl _ _, optDef zβ rfl⟩
     refine ⟨⟨_, .no (c := (!(((lget l k).l).small 48))) (d := true) rfl (fun v w h => h), fun h w => optUndef h, fun zβ za zw zc => ?_⟩, ?_⟩
     ·exact ld_34 rfl ((evt za 27).trans (optVal (zc.dep 12 27 (by kernel_rfl)) rfl zβ)) (bkeeps (bstep hb3 zc.below) _ _ (hc12 k (by first | omega | (have zz := zβ; simp only [Bool.and_eq_true, Bool.or_eq_true, Bool.true_and, Bool.not_eq_true', Bool.or_eq_false_iff, Bool.and_eq_false_iff, beq_eq_false_iff_ne, ne_eq, beq_iff_eq, decide_eq_true_eq, decide_eq_false_iff_not, bne_iff_ne, bne_eq_false_iff_eq] at zz; omega))).2.2.2.1) (bkeeps (bstep hb3 zc.below) _ _ (hc12 k (by first | omega | (have zz := zβ; simp only [Bool.and_eq_true, Bool.or_eq_true, Bool.true_and, Bool.not_eq_true', Bool.or_eq_false_iff, Bool.and_eq_false_iff, beq_eq_false_iff_ne, ne_eq, beq_iff_eq, decide_eq_true_eq, decide_eq_false_iff_not, bne_iff_ne, bne_eq_false_iff_eq] at zz; omega))).2.2.2.2.1) ⟨_, rfl, Below.refl _ _, optDef zβ rfl⟩
     refine ⟨⟨_, .no (c := (!(((lget l k).l).small 48))) (d := true) rfl (fun v w h => h), fun h w => optUndef h, fun zβ za zw zc => ?_⟩, ?_⟩
     ·exact wp_move rfl (zc.kn.ev rfl) ⟨_, rfl, Below.refl _ _, optDef zβ rfl⟩
     refine ⟨⟨_, .no (c := (!(((lget l k).l).small 48))) (d := true) rfl (fun v w h => h), fun h w => optUndef h, fun zβ za zw zc => ?_⟩, ?_⟩
     ·exact wp_call (by kernel_rfl) rfl (hv2 ((evt za 28).trans (optVal (zc.dep 13 28 (by kernel_rfl)) rfl zβ)) ((evt za 29).trans (optVal (zc.dep 14 29 (by kernel_rfl)) rfl zβ))) (rsmall_any ((lget l k).r) 48 _ _ (by decide) (hl.pr (by omega)) (IsT.below (bstep hb3 zc.below) (InT.isT (hc12 k (by first | omega | (have zz := zβ; simp only [Bool.and_eq_true, Bool.or_eq_true, Bool.true_and, Bool.not_eq_true', Bool.or_eq_false_iff, Bool.and_eq_false_iff, beq_eq_false_iff_ne, ne_eq, beq_iff_eq, decide_eq_true_eq, decide_eq_false_iff_not, bne_iff_ne, bne_eq_false_iff_eq] at zz; omega))).2.2.2.2.2.2))) (fun v w' h => ⟨v, rfl, h.2, optDef zβ h.1⟩)
     refine ⟨⟨_, .no (c := (!(((lget l k).l).small 48))) (d := true) rfl (fun v w h => h), fun h w => optUndef h, fun zβ za zw zc => ?_⟩, ?_⟩
     ·exact wp_not rfl ((evt za 30).trans (optVal (zc.dep 15 30 (by kernel_rfl)) rfl zβ)) ⟨_, rfl, Below.refl _ _, optDef zβ rfl⟩
     refine ⟨⟨true, .none rfl, fun h w => optUndef h, fun zβ za zw zc => ?_⟩, ?_⟩
     ·exact wp_or rfl ((evt za 23).trans (optVal (zc.dep 8 23 (by kernel_rfl)) rfl rfl)) (fun hp => ((evt za 31).trans (optVal (zc.dep 16 31 (by kernel_rfl)) rfl (bMkN zβ hp)))) ⟨_, rfl, Below.refl _ _, optDef zβ rfl⟩
     exact trivial
    ·intro za w15 zh hb16 zu
     have zh := zh.cons (d := 32) (v := .bool (((!(((lget l k).l).small 48)) || (!(((lget l k).r).small 48))))) (optVal (zu 17 32 (by kernel_rfl)) rfl rfl)
     clear zu
     refine WE.go zh ?_
     refine WE.next ?_
     refine WC.cond rfl (fun h17 => ?_) (fun h17 => ?_)
     ·have h17 : (¬ ((((lget l k).l).small 48) = true)) ∨ (¬ ((((lget l k).r).small 48) = true)) := by simpa using h17
      refine WC.seq (WC.region (WL.asg rfl rfl rfl rfl rfl (WL.nil (WE.next (WC.ret (WE.blockRet (WE.thenRet (WE.thenRet (WE.blockRet (WE.thenRet (WE.ret1 rfl rfl ?_)))))))))))
      have hb18 : Below w.heap.size w w15 := (bstep hb3 hb16)
      exact ⟨_, rfl, congrArg Value.bool (smallB_no (q := k) (by omega) (by have z := h17; unfold smallAt; rw [Bool.and_eq_false_iff]; simpa using z)).symm, hb18⟩
     ·have h17 : ¬ ((¬ ((((lget l k).l).small 48) = true)) ∨ (¬ ((((lget l k).r).small 48) = true))) := by simpa using h17
      refine WC.skip (WE.blockNormal (WE.next (WC.region (WL.mv rfl rfl rfl rfl rfl ?_))))
      refine WL.val (.int .i64 ((((k + 1) : Nat) : Int))) rfl rfl rfl (fun za zC zh zk => addb_3 rfl (zh.ev rfl) (zh.ev rfl) (wrap_eq (by omega) (by omega) (by omega)) zk) ?_
      refine WL.asg rfl rfl rfl rfl rfl (WL.nil ?_)
      refine WE.round (k + 1) ⟨rfl, rfl, rfl, rfl, trivial⟩ ?_ ?_
      ·have hb19 : Below w.heap.size w w15 := (bstep hb3 hb16)
       exact ⟨by omega, fun q hq => by
         by_cases e : q = k
         ·rw [e]; have z := h17; unfold smallAt; simpa using z
         ·exact hall q (by omega), hb19⟩
      ·omega
   ·have h4 : ¬ ((((k : Nat) : Int) : Int) < (((l.length : Nat) : Int) : Int)) := by simpa using h4
    refine WC.exit (WE.thenExit (WE.thenExit (WE.blockIs rfl (WE.next (WC.seq (WC.region (WL.asg rfl rfl rfl rfl rfl (WL.nil (WE.next (WC.ret (WE.ret1 rfl rfl ?_)))))))))))
    exact ⟨_, rfl, congrArg Value.bool (smallB_yes (by omega) (fun q hq => hall q (by omega))).symm, hb3⟩
theorem eltL.below' {S : Nat → Prop} {w w' : World} {x : Li} {cs : List Value} (hb : Below w.heap.size w w') (h : eltL.In S w x cs) : eltL.In S w' x cs := Elt.below h hb
set_option maxRecDepth 100000 in
set_option maxHeartbeats 1000000 in
theorem cnames_any (o : Od) (k : Int) (l : List Li) (w : World) (a : Option Addr) (c : Nat) (hl : IsCl w l a c) (hlz : l.length ≤ 1048576) (m9 : Int) (hm9 : I64 m9) (ts : List Bool) (a3 : Option Addr) (c3 : Nat) (hts : IsBo w ts a3) (htz : ts.length ≤ 1048576) (vo : Value) (ho : IsOd w o vo) : Calls Try.prog 4 #[vo, .int .i64 k, .slice a l.length c, .int .i64 m9, .slice a3 ts.length c3] w (Ret fun v' w' => v' = .bool true ∧ Below w.heap.size w w') := by
 have hot := ho
 have hr := hl.rows
 have hmr : 0 ≤ (max (min m9 1000) 0) ∧ (max (min m9 1000) 0) ≤ 1000 := by omega
 have hmI : I64 (max (min m9 1000) 0) := by unfold I64; omega
 obtain ⟨tb, to, ht1, ht2⟩ := hts
 obtain ⟨f1, f2, f3, f4⟩ := sel_facts o k l hlz
 obtain ⟨p1, p2, k1, k2, rfl, _⟩ := ho
 refine Calls.walk (l := [.agg #[.bool o.lpo, .slice p1 o.prec.length k1, .slice p2 o.weights.length k2, .int .i64 o.var], .int .i64 k, .slice a l.length c, .int .i64 m9, .slice a3 ts.length c3]) Try.func4 rfl (by kernel_rfl) ?_
 refine WC.sub (K' := [(0, .agg #[.bool o.lpo, .slice p1 o.prec.length k1, .slice p2 o.weights.length k2, .int .i64 o.var]), (1, .int .i64 k), (2, .slice a l.length c), (3, .int .i64 m9), (4, .slice a3 ts.length c3)]) ⟨rfl, rfl, rfl, rfl, rfl, trivial⟩ ?_
 refine WC.seq (WC.region ?_)
 refine WL.step (post := NewBlk w 24 #[.bool o.lpo, .slice p1 o.prec.length k1, .slice p2 o.weights.length k2, .int .i64 o.var]) rfl rfl rfl (fun za zC zh zk => box_24 rfl (zh.ev rfl) (zk _ _ (newBlk _ _ _))) ?_
 rintro _ w1 ⟨g2, rfl, hg3, hB4, hb5, hz6⟩
 have hl7 : w.heap.size ≤ g2 := by omega
 refine WL.asg rfl rfl rfl rfl rfl (WL.nil (WE.next (WC.seq (WC.seq ?_))))
 refine WC.opt [(true, .val (.slice a l.length c)), (true, .val (.bool ((decide ((20 : Int) < (l.length : Int)) || decide ((400 : Int) < (clSize l : Int)))))), (true, .val (.bool ((decide ((20 : Int) < (l.length : Int)) || decide ((400 : Int) < (clSize l : Int)))))), ((true && !(decide ((20 : Int) < (l.length : Int)) || decide ((400 : Int) < (clSize l : Int)))), .val (.slice a l.length c)), ((true && !(decide ((20 : Int) < (l.length : Int)) || decide ((400 : Int) < (clSize l : Int)))), .val (.bool ((smallB l)))), ((true && !(decide ((20 : Int) < (l.length : Int)) || decide ((400 : Int) < (clSize l : Int)))), .val (.bool ((!(smallB l))))), (true, .val (.bool (((decide ((20 : Int) < (l.length : Int)) || decide ((400 : Int) < (clSize l : Int))) || (!(smallB l))))))] [(0, .agg #[.bool o.lpo, .slice p1 o.prec.length k1, .slice p2 o.weights.length k2, .int .i64 o.var]), (1, .int .i64 k), (2, .slice a l.length c), (3, .int .i64 m9), (4, .slice a3 ts.length c3), (5, .pointer (some ⟨g2, 0, none⟩)), (10, .bool false)] ⟨rfl, rfl, rfl, rfl, rfl, rfl, rfl, trivial⟩ (by kernel_rfl) (by kernel_rfl) (by kernel_rfl) ?_ ?_
 ·refine ⟨⟨true, .none rfl, fun h w => optUndef h, fun zβ za zw zc => ?_⟩, ?_⟩
  ·exact wp_move rfl (zc.kn.ev rfl) ⟨_, rfl, Below.refl _ _, optDef zβ rfl⟩
  refine ⟨⟨true, .none rfl, fun h w => optUndef h, fun zβ za zw zc => ?_⟩, ?_⟩
  ·exact wp_call (by kernel_rfl) rfl (hv1 ((evt za 17).trans (optVal (zc.dep 0 17 (by kernel_rfl)) rfl rfl))) (large_any l _ _ _ (hl.below (bstep hb5 zc.below)) hlz) (fun v w' h => ⟨v, rfl, h.2, optDef zβ h.1⟩)
  refine ⟨⟨true, .none rfl, fun h w => optUndef h, fun zβ za zw zc => ?_⟩, ?_⟩
  ·exact wp_move rfl ((evt za 18).trans (optVal (zc.dep 1 18 (by kernel_rfl)) rfl rfl)) ⟨_, rfl, Below.refl _ _, optDef zβ rfl⟩
  refine ⟨⟨_, .no (c := (decide ((20 : Int) < (l.length : Int)) || decide ((400 : Int) < (clSize l : Int)))) (d := true) rfl (fun v w h => h), fun h w => optUndef h, fun zβ za zw zc => ?_⟩, ?_⟩
  ·exact wp_move rfl (zc.kn.ev rfl) ⟨_, rfl, Below.refl _ _, optDef zβ rfl⟩
  refine ⟨⟨_, .no (c := (decide ((20 : Int) < (l.length : Int)) || decide ((400 : Int) < (clSize l : Int)))) (d := true) rfl (fun v w h => h), fun h w => optUndef h, fun zβ za zw zc => ?_⟩, ?_⟩
  ·exact wp_call (by kernel_rfl) rfl (hv2 ((evt za 20).trans (optVal (zc.dep 3 20 (by kernel_rfl)) rfl zβ)) (zc.kn.ev rfl)) (csmall_any l _ _ _ (hl.below (bstep hb5 zc.below)) hlz) (fun v w' h => ⟨v, rfl, h.2, optDef zβ h.1⟩)
  refine ⟨⟨_, .no (c := (decide ((20 : Int) < (l.length : Int)) || decide ((400 : Int) < (clSize l : Int)))) (d := true) rfl (fun v w h => h), fun h w => optUndef h, fun zβ za zw zc => ?_⟩, ?_⟩
  ·exact wp_not rfl ((evt za 21).trans (optVal (zc.dep 4 21 (by kernel_rfl)) rfl zβ)) ⟨_, rfl, Below.refl _ _, optDef zβ rfl⟩
  refine ⟨⟨true, .none rfl, fun h w => optUndef h, fun zβ za zw zc => ?_⟩, ?_⟩
  ·exact wp_or rfl ((evt za 19).trans (optVal (zc.dep 2 19 (by kernel_rfl)) rfl rfl)) (fun hp => ((evt za 22).trans (optVal (zc.dep 5 22 (by kernel_rfl)) rfl (bMkN zβ hp)))) ⟨_, rfl, Below.refl _ _, optDef zβ rfl⟩
  exact trivial
 ·intro za w10 zh hb11 zu
  have zh := zh.cons (d := 23) (v := .bool (((decide ((20 : Int) < (l.length : Int)) || decide ((400 : Int) < (clSize l : Int))) || (!(smallB l))))) (optVal (zu 6 23 (by kernel_rfl)) rfl rfl)
  clear zu
  refine WE.go zh ?_
  refine WE.next ?_
  refine WC.cond rfl (fun h12 => ?_) (fun h12 => ?_)
  ·have h12 : ((decide ((20 : Int) < (l.length : Int)) || decide ((400 : Int) < (clSize l : Int))) = true) ∨ (¬ ((smallB l) = true)) := by simpa using h12
   refine WC.seq (WC.region ?_)
   refine WL.call rfl rfl rfl (fun za zh zC => wp_call (by kernel_rfl) rfl (hv0)) (wakes_any _) ?_
   rintro _ w14 ⟨rfl, hq13⟩
   refine WL.asg rfl rfl rfl rfl rfl (WL.nil (WE.next (WC.ret (WE.thenRet (WE.ret1 rfl rfl ?_)))))
   have hb15 : Below w.heap.size w w14 := (bstep (bstep hb5 hb11) hq13)
   exact ⟨_, rfl, rfl, hb15⟩
  ·have h12 : ¬ (((decide ((20 : Int) < (l.length : Int)) || decide ((400 : Int) < (clSize l : Int))) = true) ∨ (¬ ((smallB l) = true))) := by simpa using h12
   have hlow : LowC l := smallB_low (by have z := h12; cases e : smallB l with
    | true => rfl
    | false => rw [e] at z; simp at z)
   refine WC.skip (WE.next (WC.seq (WC.region (WL.asg rfl rfl rfl rfl rfl (WL.asg rfl rfl rfl rfl rfl (WL.nil (WE.next (WC.seq (WC.seq (WC.region (WL.mv rfl rfl rfl rfl rfl ?_)))))))))))
   refine WL.val (.int .i64 (((l.length : Nat) : Int))) rfl rfl rfl (fun za zC zh zk => len_27 rfl (zh.ev rfl) zk) ?_
   refine WL.mv rfl rfl rfl rfl rfl (WL.nil (WE.next (WC.block ?_)))
   have hl16 : g2 < w10.heap.size := by have z1 := hB4.lt; have z2 := (hb11).size; omega
   have hb18 : Below w.heap.size w w10 := (bstep hb5 hb11)
   have hl17 : w.heap.size ≤ w10.heap.size := (hb18).size
   have hWB0 : w.heap.size ≤ w10.heap.size := hb18.size
   have hT0 : TwoX w10.heap.size 36 w10 none 0 0 ([]) none 0 0 ([]) := TwoX.nil
   refine WC.loop (X := Nat × (Option Addr × Nat) × (Option Addr × Nat)) (fun x => l.length - x.1) (fun x => [(0, .agg #[.bool o.lpo, .slice p1 o.prec.length k1, .slice p2 o.weights.length k2, .int .i64 o.var]), (1, .int .i64 k), (2, .slice a l.length c), (3, .int .i64 m9), (4, .slice a3 ts.length c3), (5, .pointer (some ⟨g2, 0, none⟩)), (10, .bool false), (11, .slice x.2.1.1 x.1 x.2.1.2), (12, .slice x.2.2.1 x.1 x.2.2.2), (23, .bool (((decide ((20 : Int) < (l.length : Int)) || decide ((400 : Int) < (clSize l : Int))) || (!(smallB l))))), (25, .slice a l.length c), (26, .int .i64 (((l.length : Nat) : Int))), (27, .int .i64 (((x.1 : Nat) : Int)))]) (fun x w19 => x.1 ≤ l.length ∧ w10.heap.size ≤ (w19).heap.size ∧ Below w.heap.size w w19 ∧ Blk w19 g2 24 #[.bool o.lpo, .slice p1 o.prec.length k1, .slice p2 o.weights.length k2, .int .i64 o.var] ∧ TwoX w10.heap.size 36 (w19) x.2.1.1 x.2.1.2 x.1 ((upL (movI (max (min m9 1000) 0) l) x.1)) x.2.2.1 x.2.2.2 x.1 ((upL (turI ts l) x.1))) ((0, (none, 0), (none, 0))) ⟨rfl, rfl, rfl, rfl, rfl, rfl, rfl, rfl, rfl, rfl, rfl, rfl, rfl, trivial⟩ ?_ ?_
   ·have hB20 := hB4.below hb11
    exact ⟨Nat.zero_le _, Nat.le_refl _, hb18, hB20, hT0⟩
   ·rintro x w19 ⟨hk, hBw, hb21, hB22, ho23⟩
    have hO1 : ∀ b, (Value.slice x.2.1.1 x.1 x.2.1.2).ownBlock = some b → w10.heap.size ≤ b ∧ b < w19.heap.size := fun b q => by obtain ⟨S9, hT⟩ := ho23; exact ⟨(hT.o1 b q).1, hT.lt1 b q⟩
    have hO2 : ∀ b, (Value.slice x.2.2.1 x.1 x.2.2.2).ownBlock = some b → w10.heap.size ≤ b ∧ b < w19.heap.size := fun b q => by obtain ⟨S9, hT⟩ := ho23; exact ⟨hT.o2 b q, hT.lt2 b q⟩
    refine WC.seq (WC.region ?_)
    refine WL.val (.bool ((decide ((((x.1 : Nat) : Int) : Int) < (((l.length : Nat) : Int) : Int))))) rfl rfl rfl (fun za zC zh zk => lss_3 rfl (zh.ev rfl) (zh.ev rfl) zk) ?_
    refine WL.nil (WE.next (WC.seq ?_))
    refine WC.cond rfl (fun h24 => ?_) (fun h24 => ?_)
    ·have h24 : (((x.1 : Nat) : Int) : Int) < (((l.length : Nat) : Int) : Int) := by simpa using h24
     refine WC.skip (WE.next (WC.seq (WC.block (WC.seq (WC.region (WL.mv rfl rfl rfl rfl rfl ?_))))))
     obtain ⟨b25, o26, A27, C28, A29, C30, ha31, hc32⟩ := InRow.openL hr
     refine WL.val _ rfl rfl rfl (fun za zC zh zk => ix_27 (k := x.1) rfl (zh.ev rfl) (ha31 x.1 (by first | omega | (simp; omega))) (zh.ev rfl) (by first | omega | (simp; omega)) zk) ?_
     refine WL.val _ rfl rfl rfl (fun za zC zh zk => ld_36 rfl (zh.ev rfl) (bkeeps hb21 _ _ (hc32 x.1 (by first | omega | (simp; omega))).1) (bkeeps hb21 _ _ (hc32 x.1 (by first | omega | (simp; omega))).2.1) (bkeeps hb21 _ _ (hc32 x.1 (by first | omega | (simp; omega))).2.2.1) (bkeeps hb21 _ _ (hc32 x.1 (by first | omega | (simp; omega))).2.2.2.1) (bkeeps hb21 _ _ (hc32 x.1 (by first | omega | (simp; omega))).2.2.2.2.1) zk) ?_
     refine WL.step (post := NewBlk w19 36 #[.bool false, .int .i64 0, .slice none 0 0, .int .i64 0, .slice none 0 0]) rfl rfl rfl (fun za zC zh zk => alloc_36 rfl (zk _ _ (newBlk _ _ _))) ?_
     rintro _ w33 ⟨g34, rfl, hg35, hB36, hb37, hz38⟩
     have hl39 : g2 < g34 := by have z1 := hB22.lt; omega
     have hl40 : w.heap.size ≤ g34 := by have z2 := (hb21).size; omega
     have hl41 : w19.heap.size ≤ g34 := by omega
     refine WL.asg rfl rfl rfl rfl rfl ?_
     refine WL.step (post := fun _ w' => Upd g34 w33 w' ∧ Blk w' g34 36 #[.bool ((lget l x.1).neg), .int .i64 ((lget l x.1).l.f), .slice ((A27 x.1)) ((lget l x.1).l.args.length) ((C28 x.1)), .int .i64 ((lget l x.1).r.f), .slice ((A29 x.1)) ((lget l x.1).r.args.length) ((C30 x.1))]) rfl rfl rfl (fun za zC zh zk => st_36 rfl (zh.ev rfl) (zh.ev rfl) rfl rfl rfl rfl rfl hB36 (by first | decide | simp) (fun v => zk v _ ⟨((((Upd.at_ _ _ _ _).trans (Upd.at_ _ _ _ _)).trans (Upd.at_ _ _ _ _)).trans (Upd.at_ _ _ _ _)).trans (Upd.at_ _ _ _ _), ((((hB36.set_ 0 _).set_ 1 _).set_ 2 _).set_ 3 _).set_ 4 _⟩)) ?_
     rintro v45 w42 ⟨hu43, hB44⟩
     have hb46 : Below w.heap.size w w33 := (bstep hb21 hb37)
     have hb47 := upd_below hb46 hu43 (by omega)
     have hb48 := upd_below hb37 hu43 (by omega)
     have hB49 := hB22.below hb37
     have hB50 := upd_blk hB49 hu43 (by omega)
     refine WL.nil (WE.next (WC.seq ?_))
     have ho51 := ho23.below hb48
     have hle7 : w19.heap.size ≤ w42.heap.size := hb48.size
     have hw07 : w10.heap.size ≤ w42.heap.size := (Nat.le_trans hBw hb48.size)
     have hSlt : ∀ b, (fun b => (Value.slice x.2.1.1 x.1 x.2.1.2).ownBlock = some b) b → b < w42.heap.size := fun b q => by have z := (hO1 b q).2; omega
     have hGV9 : ∀ (vals : List Value) (wa wb : World), Below wa.heap.size wa wb → (fun vals wz => match vals with | [] => TwoX w10.heap.size 36 wz x.2.1.1 x.2.1.2 x.1 ((upL (movI (max (min m9 1000) 0) l) x.1)) x.2.2.1 x.2.2.2 x.1 ((upL (turI ts l) x.1)) | [z0] => ∃ ra rc, z0 = .slice ra (x.1 + 1) rc ∧ TwoX w10.heap.size 36 wz ra rc ((x.1 + 1)) ((upL (movI (max (min m9 1000) 0) l) x.1 ++ [(movI (max (min m9 1000) 0) l x.1)])) x.2.2.1 x.2.2.2 x.1 ((upL (turI ts l) x.1)) | [_, z1] => ∃ ra rc, z1 = .slice ra (x.1 + 1) rc ∧ TwoX w10.heap.size 36 wz ra rc ((x.1 + 1)) ((upL (movI (max (min m9 1000) 0) l) x.1 ++ [(movI (max (min m9 1000) 0) l x.1)])) x.2.2.1 x.2.2.2 x.1 ((upL (turI ts l) x.1)) | _ => False) vals wa → (fun vals wz => match vals with | [] => TwoX w10.heap.size 36 wz x.2.1.1 x.2.1.2 x.1 ((upL (movI (max (min m9 1000) 0) l) x.1)) x.2.2.1 x.2.2.2 x.1 ((upL (turI ts l) x.1)) | [z0] => ∃ ra rc, z0 = .slice ra (x.1 + 1) rc ∧ TwoX w10.heap.size 36 wz ra rc ((x.1 + 1)) ((upL (movI (max (min m9 1000) 0) l) x.1 ++ [(movI (max (min m9 1000) 0) l x.1)])) x.2.2.1 x.2.2.2 x.1 ((upL (turI ts l) x.1)) | [_, z1] => ∃ ra rc, z1 = .slice ra (x.1 + 1) rc ∧ TwoX w10.heap.size 36 wz ra rc ((x.1 + 1)) ((upL (movI (max (min m9 1000) 0) l) x.1 ++ [(movI (max (min m9 1000) 0) l x.1)])) x.2.2.1 x.2.2.2 x.1 ((upL (turI ts l) x.1)) | _ => False) vals wb := by
      intro vals wa wb hb h
      match vals, h with
      | [], h => exact TwoX.below h hb
      | [z0], h =>
       obtain ⟨ra, rc, e, k1⟩ := h
       exact ⟨ra, rc, e, k1.below hb⟩
      | [_, z1], h =>
       obtain ⟨ra, rc, e, k1⟩ := h
       exact ⟨ra, rc, e, k1.below hb⟩
     refine WC.seqV (S := ((fun b => (Value.slice x.2.1.1 x.1 x.2.1.2).ownBlock = some b))) [(true, .val (.slice x.2.1.1 x.1 x.2.1.2)), (true, .val (.pointer (some ⟨g34, 0, none⟩))), (true, .val (.bool ((lget l x.1).neg))), (true, .val (.pointer (some ⟨g34, 1, none⟩))), (true, .val (.agg #[.int .i64 ((lget l x.1).l.f), .slice ((A27 x.1)) ((lget l x.1).l.args.length) ((C28 x.1))])), (true, .val (.int .i64 m9)), (true, .val (.int .i64 ((min m9 1000)))), (true, .val (.int .i64 ((max ((min m9 1000)) 0)))), (true, .mem (fun v w' => NewT w42 w' ((lget l x.1).l.mv (max (min m9 1000) 0)) v) (fun v w w' hc h => InT.chg h hc (fun b hb hs => by have z := hSlt b hs; omega))), (true, .val (.pointer (some ⟨g34, 3, none⟩))), (true, .val (.agg #[.int .i64 ((lget l x.1).r.f), .slice ((A29 x.1)) ((lget l x.1).r.args.length) ((C30 x.1))])), (true, .val (.int .i64 m9)), (true, .val (.int .i64 ((min m9 1000)))), (true, .val (.int .i64 ((max ((min m9 1000)) 0)))), (true, .mem (fun v w' => NewT w42 w' ((lget l x.1).r.mv (max (min m9 1000) 0)) v) (fun v w w' hc h => InT.chg h hc (fun b hb hs => by have z := hSlt b hs; omega))), (true, .mem (fun v w' => NewL w42 w' ((movI (max (min m9 1000) 0) l x.1)) v) (fun v w w' hc h => NewL.chg h hc (fun b hb hs => by have z := hSlt b hs; omega))), (true, .mem (fun v w' => OneRow eltL w42 36 ((movI (max (min m9 1000) 0) l x.1)) v w') (fun v w w' hc h => h.chg hc hSlt)), (true, .val undef), (true, .val undef)] [(0, .agg #[.bool o.lpo, .slice p1 o.prec.length k1, .slice p2 o.weights.length k2, .int .i64 o.var]), (1, .int .i64 k), (2, .slice a l.length c), (3, .int .i64 m9), (4, .slice a3 ts.length c3), (5, .pointer (some ⟨g2, 0, none⟩)), (10, .bool false), (12, .slice x.2.2.1 x.1 x.2.2.2), (13, .int .i64 (((x.1 : Nat) : Int))), (14, .pointer (some ⟨g34, 0, none⟩)), (23, .bool (((decide ((20 : Int) < (l.length : Int)) || decide ((400 : Int) < (clSize l : Int))) || (!(smallB l))))), (25, .slice a l.length c), (26, .int .i64 (((l.length : Nat) : Int))), (27, .int .i64 (((x.1 : Nat) : Int))), (28, .bool ((decide ((((x.1 : Nat) : Int) : Int) < (((l.length : Nat) : Int) : Int)))))] [17, 18] [none, none] (fun vals wz => match vals with | [] => TwoX w10.heap.size 36 wz x.2.1.1 x.2.1.2 x.1 ((upL (movI (max (min m9 1000) 0) l) x.1)) x.2.2.1 x.2.2.2 x.1 ((upL (turI ts l) x.1)) | [z0] => ∃ ra rc, z0 = .slice ra (x.1 + 1) rc ∧ TwoX w10.heap.size 36 wz ra rc ((x.1 + 1)) ((upL (movI (max (min m9 1000) 0) l) x.1 ++ [(movI (max (min m9 1000) 0) l x.1)])) x.2.2.1 x.2.2.2 x.1 ((upL (turI ts l) x.1)) | [_, z1] => ∃ ra rc, z1 = .slice ra (x.1 + 1) rc ∧ TwoX w10.heap.size 36 wz ra rc ((x.1 + 1)) ((upL (movI (max (min m9 1000) 0) l) x.1 ++ [(movI (max (min m9 1000) 0) l x.1)])) x.2.2.1 x.2.2.2 x.1 ((upL (turI ts l) x.1)) | _ => False) hGV9 (by decide) ⟨rfl, rfl, rfl, rfl, rfl, rfl, rfl, rfl, rfl, rfl, rfl, rfl, rfl, rfl, rfl, trivial⟩ (by kernel_rfl) (by kernel_rfl) (by kernel_rfl) (by kernel_rfl) ho51 ?_ ?_
     ·refine ⟨.inl ⟨rfl, true, .none rfl, (fun gg b h => by cases h), fun h w => optUndef h, fun zβ za zw zc => ?_⟩, ?_⟩
      ·exact wp_move rfl ((evt za 11).trans (zc.old 11 _ rfl (by kernel_rfl))) ⟨_, rfl, Below.refl _ _, optDef zβ rfl⟩
      refine ⟨.inl ⟨rfl, true, .none rfl, (fun gg b h => by cases h), fun h w => optUndef h, fun zβ za zw zc => ?_⟩, ?_⟩
      ·exact fld_36_0 rfl (zc.kn.ev rfl) ⟨_, rfl, Below.refl _ _, optDef zβ rfl⟩
      refine ⟨.inl ⟨rfl, true, .none rfl, (fun gg b h => by cases h), fun h w => optUndef h, fun zβ za zw zc => ?_⟩, ?_⟩
      ·exact ld_4 rfl ((evt za 33).trans (optSVal (zc.dep 1 33 (by kernel_rfl) (by decide)) rfl rfl)) (chg_cell zc.chg (by intro h9; have z := hO1 _ h9; (try dsimp only at *); omega) ((hB44.cell 0).trans rfl)) ⟨_, rfl, Below.refl _ _, optDef zβ rfl⟩
      refine ⟨.inl ⟨rfl, true, .none rfl, (fun gg b h => by cases h), fun h w => optUndef h, fun zβ za zw zc => ?_⟩, ?_⟩
      ·exact fld_36_1 rfl (zc.kn.ev rfl) ⟨_, rfl, Below.refl _ _, optDef zβ rfl⟩
      refine ⟨.inl ⟨rfl, true, .none rfl, (fun gg b h => by cases h), fun h w => optUndef h, fun zβ za zw zc => ?_⟩, ?_⟩
      ·exact ld_34 rfl ((evt za 35).trans (optSVal (zc.dep 3 35 (by kernel_rfl) (by decide)) rfl rfl)) (chg_cell zc.chg (by intro h9; have z := hO1 _ h9; (try dsimp only at *); omega) ((hB44.cell 1).trans rfl)) (chg_cell zc.chg (by intro h9; have z := hO1 _ h9; (try dsimp only at *); omega) ((hB44.cell 2).trans rfl)) ⟨_, rfl, Below.refl _ _, optDef zβ rfl⟩
      refine ⟨.inl ⟨rfl, true, .none rfl, (fun gg b h => by cases h), fun h w => optUndef h, fun zβ za zw zc => ?_⟩, ?_⟩
      ·exact wp_move rfl (zc.kn.ev rfl) ⟨_, rfl, Below.refl _ _, optDef zβ rfl⟩
      refine ⟨.inl ⟨rfl, true, .none rfl, (fun gg b h => by cases h), fun h w => optUndef h, fun zβ za zw zc => ?_⟩, ?_⟩
      ·exact min_3 rfl ((evt za 37).trans (optSVal (zc.dep 5 37 (by kernel_rfl) (by decide)) rfl rfl)) (zc.kn.ev rfl) ⟨_, rfl, Below.refl _ _, optDef zβ rfl⟩
      refine ⟨.inl ⟨rfl, true, .none rfl, (fun gg b h => by cases h), fun h w => optUndef h, fun zβ za zw zc => ?_⟩, ?_⟩
      ·exact max_3 rfl ((evt za 38).trans (optSVal (zc.dep 6 38 (by kernel_rfl) (by decide)) rfl rfl)) (zc.kn.ev rfl) ⟨_, rfl, Below.refl _ _, optDef zβ rfl⟩
      refine ⟨.inl ⟨rfl, true, .none rfl, (fun gg b h => by cases h), fun h w => optUndef h, fun zβ za zw zc => ?_⟩, ?_⟩
      ·exact wp_call (by kernel_rfl) rfl (hv2 ((evt za 36).trans (optSVal (zc.dep 4 36 (by kernel_rfl) (by decide)) rfl rfl)) ((evt za 39).trans (optSVal (zc.dep 7 39 (by kernel_rfl) (by decide)) rfl rfl))) (move_any ((lget l x.1).l) (max (min m9 1000) 0) _ _ (hl.pl (by omega)) (IsT.below (chg_below hb47 zc.chg (fun b9 hb9 h9 => by have z := hO1 b9 h9; omega)) (InT.isT (hc32 x.1 (by first | omega | (simp; omega))).2.2.2.2.2.1)) hmI) (fun v w' h => ⟨v, rfl, h.2, optDef zβ (InT.mono (fun b hb _ => Nat.le_trans zc.chg.size hb) h.1)⟩)
      refine ⟨.inl ⟨rfl, true, .none rfl, (fun gg b h => by cases h), fun h w => optUndef h, fun zβ za zw zc => ?_⟩, ?_⟩
      ·exact fld_36_2 rfl (zc.kn.ev rfl) ⟨_, rfl, Below.refl _ _, optDef zβ rfl⟩
      refine ⟨.inl ⟨rfl, true, .none rfl, (fun gg b h => by cases h), fun h w => optUndef h, fun zβ za zw zc => ?_⟩, ?_⟩
      ·exact ld_34 rfl ((evt za 41).trans (optSVal (zc.dep 9 41 (by kernel_rfl) (by decide)) rfl rfl)) (chg_cell zc.chg (by intro h9; have z := hO1 _ h9; (try dsimp only at *); omega) ((hB44.cell 3).trans rfl)) (chg_cell zc.chg (by intro h9; have z := hO1 _ h9; (try dsimp only at *); omega) ((hB44.cell 4).trans rfl)) ⟨_, rfl, Below.refl _ _, optDef zβ rfl⟩
      refine ⟨.inl ⟨rfl, true, .none rfl, (fun gg b h => by cases h), fun h w => optUndef h, fun zβ za zw zc => ?_⟩, ?_⟩
      ·exact wp_move rfl (zc.kn.ev rfl) ⟨_, rfl, Below.refl _ _, optDef zβ rfl⟩
      refine ⟨.inl ⟨rfl, true, .none rfl, (fun gg b h => by cases h), fun h w => optUndef h, fun zβ za zw zc => ?_⟩, ?_⟩
      ·exact min_3 rfl ((evt za 43).trans (optSVal (zc.dep 11 43 (by kernel_rfl) (by decide)) rfl rfl)) (zc.kn.ev rfl) ⟨_, rfl, Below.refl _ _, optDef zβ rfl⟩
      refine ⟨.inl ⟨rfl, true, .none rfl, (fun gg b h => by cases h), fun h w => optUndef h, fun zβ za zw zc => ?_⟩, ?_⟩
      ·exact max_3 rfl ((evt za 44).trans (optSVal (zc.dep 12 44 (by kernel_rfl) (by decide)) rfl rfl)) (zc.kn.ev rfl) ⟨_, rfl, Below.refl _ _, optDef zβ rfl⟩
      refine ⟨.inl ⟨rfl, true, .none rfl, (fun gg b h => by cases h), fun h w => optUndef h, fun zβ za zw zc => ?_⟩, ?_⟩
      ·exact wp_call (by kernel_rfl) rfl (hv2 ((evt za 42).trans (optSVal (zc.dep 10 42 (by kernel_rfl) (by decide)) rfl rfl)) ((evt za 45).trans (optSVal (zc.dep 13 45 (by kernel_rfl) (by decide)) rfl rfl))) (move_any ((lget l x.1).r) (max (min m9 1000) 0) _ _ (hl.pr (by omega)) (IsT.below (chg_below hb47 zc.chg (fun b9 hb9 h9 => by have z := hO1 b9 h9; omega)) (InT.isT (hc32 x.1 (by first | omega | (simp; omega))).2.2.2.2.2.2)) hmI) (fun v w' h => ⟨v, rfl, h.2, optDef zβ (InT.mono (fun b hb _ => Nat.le_trans zc.chg.size hb) h.1)⟩)
      refine ⟨.inl ⟨rfl, true, .none rfl, (fun gg b h => by cases h), fun h w => optUndef h, fun zβ za zw zc => ?_⟩, ?_⟩
      ·have z1 := (optSMem (zc.dep 8 40 (by kernel_rfl) (by decide)) rfl rfl)
       obtain ⟨_, a1, c1, e1, _⟩ := z1.form
       rw [e1] at z1
       have z2 := (optSMem (zc.dep 14 46 (by kernel_rfl) (by decide)) rfl rfl)
       obtain ⟨_, a2, c2, e2, _⟩ := z2.form
       rw [e2] at z2
       exact build_36_0_1_2 rfl ((evt za 34).trans (optSVal (zc.dep 2 34 (by kernel_rfl) (by decide)) rfl rfl)) ((evt za 40).trans e1) ((evt za 46).trans e2) ⟨_, rfl, Below.refl _ _, optDef zβ (newL_mk (x := (movI (max (min m9 1000) 0) l x.1)) z1 z2)⟩
      refine ⟨.inl ⟨rfl, true, .none rfl, (fun gg b h => by cases h), fun h w => optUndef h, fun zβ za zw zc => ?_⟩, ?_⟩
      ·have zv := (optSMem (zc.dep 15 47 (by kernel_rfl) (by decide)) rfl rfl)
       obtain ⟨a1, a2, c1, c2, e1⟩ := zv.parts
       rw [e1] at zv
       exact row_27_1 rfl ((evt za 47).trans e1) ⟨_, rfl, balloc _ _, optDef zβ ⟨_, _, rfl, zc.chg.size, Blk.new' rfl, eltL.below' (balloc _ _) zv.elt⟩⟩
      refine ⟨.inr ⟨0, rfl, by kernel_rfl, true, .none rfl, (fun gg b h => by cases h), (fun h => (nomatch h)), fun zβ za zw zvals zc => ?_⟩, ?_⟩
      ·obtain rfl := vlen0 zc.len
       have zn := zc.now
       obtain ⟨S9, hT⟩ := zn
       obtain ⟨g1, cs, e1, hg1, hB1, hin⟩ := (optSMem (zc.dep 16 48 (by kernel_rfl) (by decide)) rfl rfl)
       exact wp_appD (E := eltL) (S2 := fun b => w42.heap.size ≤ b) (size := 5) (bytes := 72) (z := .agg #[.bool false, .int .i64 0, .slice none 0 0, .int .i64 0, .slice none 0 0]) rfl Try.underlying27 (by kernel_rfl) rfl (by decide) rfl ((evt za 32).trans (optSVal (zc.dep 0 32 (by kernel_rfl) (by decide)) rfl rfl)) ((evt za 48).trans e1) hT.r1 hB1 hin (fun b q q2 => by have z := hSlt b q2; omega) (by omega) (by omega) (fun ra rc w' h1 h2 h3 => ⟨_, rfl, h2, ⟨ra, rc, rfl, hT.grow1 hw07 (fun b q => by have z := (hO2 b q).2; omega) h1 h2 h3 (by have z := zc.chg.size; omega)⟩, cvNo⟩)
      refine ⟨.inr ⟨1, rfl, by kernel_rfl, true, .none rfl, (fun gg b h => by cases h), (fun h => (nomatch h)), fun zβ za zw zvals zc => ?_⟩, ?_⟩
      ·obtain ⟨z0, rfl⟩ := vlen1 zc.len
       have zn := zc.now
       obtain ⟨ra, rc, e, k1⟩ := zn
       have e0 : z0 = za.tmps.getD 49 undef := Option.some.inj (zc.val 0 17 49 rfl (by kernel_rfl))
       exact wp_assign rfl ((evt za 49).trans (e0.symm.trans e)) ⟨_, rfl, .ofBelow (Below.refl _ _), ⟨ra, rc, rfl, k1⟩, cvNo⟩
      exact trivial
     ·intro za w52 zvals zh zl hG53 hc54 zu zw zk
      obtain ⟨z0, z1, rfl⟩ := vlen2 zl
      obtain ⟨ra9, rc9, e9, k9⟩ := hG53
      have zh := zh.cons (d := 11) (v := .slice ra9 (x.1 + 1) rc9) ((Option.some.inj (zw 1 18 11 rfl (by kernel_rfl))).symm.trans e9)
      have hb55 := chg_below hb47 hc54 (fun b hb => (fun h => by have z := hO1 _ h; (try dsimp only at *); omega))
      have hB56 := chg_blk hB50 hc54 (fun h => by have z := hO1 _ h; (try dsimp only at *); omega)
      have hB57 := chg_blk hB44 hc54 (fun h => by have z := hO1 _ h; (try dsimp only at *); omega)
      clear zu zw zk
      refine WE.go zh ?_
      refine WE.next (WC.seq (WC.region ?_))
      refine WL.val _ rfl rfl rfl (fun za zC zh zk => ld_36 rfl (zh.ev rfl) ((hB57.cell 0).trans rfl) ((hB57.cell 1).trans rfl) ((hB57.cell 2).trans rfl) ((hB57.cell 3).trans rfl) ((hB57.cell 4).trans rfl) zk) ?_
      refine WL.step (post := NewBlk w52 36 #[.bool false, .int .i64 0, .slice none 0 0, .int .i64 0, .slice none 0 0]) rfl rfl rfl (fun za zC zh zk => alloc_36 rfl (zk _ _ (newBlk _ _ _))) ?_
      rintro _ w58 ⟨g59, rfl, hg60, hB61, hb62, hz63⟩
      have hl64 : g2 < g59 := by have z1 := hB56.lt; omega
      have hl65 : g34 < g59 := by have z1 := hB57.lt; omega
      have hl66 : w.heap.size ≤ g59 := by have z2 := (hb55).size; omega
      have hl67 : w52.heap.size ≤ g59 := by omega
      refine WL.step (post := fun _ w' => Upd g59 w58 w' ∧ Blk w' g59 36 #[.bool ((lget l x.1).neg), .int .i64 ((lget l x.1).l.f), .slice ((A27 x.1)) ((lget l x.1).l.args.length) ((C28 x.1)), .int .i64 ((lget l x.1).r.f), .slice ((A29 x.1)) ((lget l x.1).r.args.length) ((C30 x.1))]) rfl rfl rfl (fun za zC zh zk => st_36 rfl (zh.ev rfl) (zh.ev rfl) rfl rfl rfl rfl rfl hB61 (by first | decide | simp) (fun v => zk v _ ⟨((((Upd.at_ _ _ _ _).trans (Upd.at_ _ _ _ _)).trans (Upd.at_ _ _ _ _)).trans (Upd.at_ _ _ _ _)).trans (Upd.at_ _ _ _ _), ((((hB61.set_ 0 _).set_ 1 _).set_ 2 _).set_ 3 _).set_ 4 _⟩)) ?_
      rintro v71 w68 ⟨hu69, hB70⟩
      have hb72 : Below w.heap.size w w58 := (bstep hb55 hb62)
      have hb73 := upd_below hb72 hu69 (by omega)
      have hb74 := upd_below hb62 hu69 (by omega)
      have hB75 := hB56.below hb62
      have hB76 := upd_blk hB75 hu69 (by omega)
      have hB77 := hB57.below hb62
      have hB78 := upd_blk hB77 hu69 (by omega)
      refine WL.nil (WE.next (WC.seq (WC.seq ?_)))
      refine WC.opt [(true, .val (.int .i64 (((x.1 : Nat) : Int)))), (true, .val (.slice a3 ts.length c3)), (true, .val (.int .i64 (((ts.length : Nat) : Int)))), (true, .val (.bool ((decide ((((x.1 : Nat) : Int) : Int) < (((ts.length : Nat) : Int) : Int)))))), (true, .val (.bool ((decide ((((x.1 : Nat) : Int) : Int) < (((ts.length : Nat) : Int) : Int)))))), ((true && (decide ((((x.1 : Nat) : Int) : Int) < (((ts.length : Nat) : Int) : Int)))), .val (.slice a3 ts.length c3)), ((true && (decide ((((x.1 : Nat) : Int) : Int) < (((ts.length : Nat) : Int) : Int)))), .val (.int .i64 (((x.1 : Nat) : Int)))), ((true && (decide ((((x.1 : Nat) : Int) : Int) < (((ts.length : Nat) : Int) : Int)))), .val (.pointer (some ⟨tb, to + x.1, none⟩))), ((true && (decide ((((x.1 : Nat) : Int) : Int) < (((ts.length : Nat) : Int) : Int)))), .val (.bool ((bget3 ts x.1)))), (true, .val (.bool (((decide ((((x.1 : Nat) : Int) : Int) < (((ts.length : Nat) : Int) : Int))) && (bget3 ts x.1))))), (true, .val (.bool (((decide ((((x.1 : Nat) : Int) : Int) < (((ts.length : Nat) : Int) : Int))) && (bget3 ts x.1))))), ((true && ((decide ((((x.1 : Nat) : Int) : Int) < (((ts.length : Nat) : Int) : Int))) && (bget3 ts x.1))), .val (.pointer (some ⟨g34, 3, none⟩))), ((true && ((decide ((((x.1 : Nat) : Int) : Int) < (((ts.length : Nat) : Int) : Int))) && (bget3 ts x.1))), .val (.agg #[.int .i64 ((lget l x.1).r.f), .slice ((A29 x.1)) ((lget l x.1).r.args.length) ((C30 x.1))])), ((true && ((decide ((((x.1 : Nat) : Int) : Int) < (((ts.length : Nat) : Int) : Int))) && (bget3 ts x.1))), .val (.bool ((lget l x.1).r.isTrue))), ((true && ((decide ((((x.1 : Nat) : Int) : Int) < (((ts.length : Nat) : Int) : Int))) && (bget3 ts x.1))), .val (.bool ((!(lget l x.1).r.isTrue)))), (true, .val (.bool ((((decide ((((x.1 : Nat) : Int) : Int) < (((ts.length : Nat) : Int) : Int))) && (bget3 ts x.1)) && (!(lget l x.1).r.isTrue))))), (true, .val (.bool ((((decide ((((x.1 : Nat) : Int) : Int) < (((ts.length : Nat) : Int) : Int))) && (bget3 ts x.1)) && (!(lget l x.1).r.isTrue))))), ((true && (((decide ((((x.1 : Nat) : Int) : Int) < (((ts.length : Nat) : Int) : Int))) && (bget3 ts x.1)) && (!(lget l x.1).r.isTrue))), .val (.pointer (some ⟨g34, 1, none⟩))), ((true && (((decide ((((x.1 : Nat) : Int) : Int) < (((ts.length : Nat) : Int) : Int))) && (bget3 ts x.1)) && (!(lget l x.1).r.isTrue))), .val (.agg #[.int .i64 ((lget l x.1).l.f), .slice ((A27 x.1)) ((lget l x.1).l.args.length) ((C28 x.1))])), ((true && (((decide ((((x.1 : Nat) : Int) : Int) < (((ts.length : Nat) : Int) : Int))) && (bget3 ts x.1)) && (!(lget l x.1).r.isTrue))), .val (.bool ((lget l x.1).l.isTrue))), ((true && (((decide ((((x.1 : Nat) : Int) : Int) < (((ts.length : Nat) : Int) : Int))) && (bget3 ts x.1)) && (!(lget l x.1).r.isTrue))), .val (.bool ((!(lget l x.1).l.isTrue)))), (true, .val (.bool (((((decide ((((x.1 : Nat) : Int) : Int) < (((ts.length : Nat) : Int) : Int))) && (bget3 ts x.1)) && (!(lget l x.1).r.isTrue)) && (!(lget l x.1).l.isTrue)))))] [(0, .agg #[.bool o.lpo, .slice p1 o.prec.length k1, .slice p2 o.weights.length k2, .int .i64 o.var]), (1, .int .i64 k), (2, .slice a l.length c), (3, .int .i64 m9), (4, .slice a3 ts.length c3), (5, .pointer (some ⟨g2, 0, none⟩)), (10, .bool false), (11, .slice ra9 ((x.1 + 1)) rc9), (12, .slice x.2.2.1 x.1 x.2.2.2), (13, .int .i64 (((x.1 : Nat) : Int))), (14, .pointer (some ⟨g34, 0, none⟩)), (15, .pointer (some ⟨g59, 0, none⟩)), (23, .bool (((decide ((20 : Int) < (l.length : Int)) || decide ((400 : Int) < (clSize l : Int))) || (!(smallB l))))), (25, .slice a l.length c), (26, .int .i64 (((l.length : Nat) : Int))), (27, .int .i64 (((x.1 : Nat) : Int))), (28, .bool ((decide ((((x.1 : Nat) : Int) : Int) < (((l.length : Nat) : Int) : Int)))))] ⟨rfl, rfl, rfl, rfl, rfl, rfl, rfl, rfl, rfl, rfl, rfl, rfl, rfl, rfl, rfl, rfl, rfl, trivial⟩ (by kernel_rfl) (by kernel_rfl) (by kernel_rfl) ?_ ?_
      ·refine ⟨⟨true, .none rfl, fun h w => optUndef h, fun zβ za zw zc => ?_⟩, ?_⟩
       ·exact wp_move rfl (zc.kn.ev rfl) ⟨_, rfl, Below.refl _ _, optDef zβ rfl⟩
       refine ⟨⟨true, .none rfl, fun h w => optUndef h, fun zβ za zw zc => ?_⟩, ?_⟩
       ·exact wp_move rfl (zc.kn.ev rfl) ⟨_, rfl, Below.refl _ _, optDef zβ rfl⟩
       refine ⟨⟨true, .none rfl, fun h w => optUndef h, fun zβ za zw zc => ?_⟩, ?_⟩
       ·exact len_38 rfl ((evt za 52).trans (optVal (zc.dep 1 52 (by kernel_rfl)) rfl rfl)) ⟨_, rfl, Below.refl _ _, optDef zβ rfl⟩
       refine ⟨⟨true, .none rfl, fun h w => optUndef h, fun zβ za zw zc => ?_⟩, ?_⟩
       ·exact lss_3 rfl ((evt za 51).trans (optVal (zc.dep 0 51 (by kernel_rfl)) rfl rfl)) ((evt za 53).trans (optVal (zc.dep 2 53 (by kernel_rfl)) rfl rfl)) ⟨_, rfl, Below.refl _ _, optDef zβ rfl⟩
       refine ⟨⟨true, .none rfl, fun h w => optUndef h, fun zβ za zw zc => ?_⟩, ?_⟩
       ·exact wp_move rfl ((evt za 54).trans (optVal (zc.dep 3 54 (by kernel_rfl)) rfl rfl)) ⟨_, rfl, Below.refl _ _, optDef zβ rfl⟩
       refine ⟨⟨_, .yes (c := (decide ((((x.1 : Nat) : Int) : Int) < (((ts.length : Nat) : Int) : Int)))) (d := true) rfl (fun v w h => h), fun h w => optUndef h, fun zβ za zw zc => ?_⟩, ?_⟩
       ·exact wp_move rfl (zc.kn.ev rfl) ⟨_, rfl, Below.refl _ _, optDef zβ rfl⟩
       refine ⟨⟨_, .yes (c := (decide ((((x.1 : Nat) : Int) : Int) < (((ts.length : Nat) : Int) : Int)))) (d := true) rfl (fun v w h => h), fun h w => optUndef h, fun zβ za zw zc => ?_⟩, ?_⟩
       ·exact wp_move rfl (zc.kn.ev rfl) ⟨_, rfl, Below.refl _ _, optDef zβ rfl⟩
       refine ⟨⟨_, .yes (c := (decide ((((x.1 : Nat) : Int) : Int) < (((ts.length : Nat) : Int) : Int)))) (d := true) rfl (fun v w h => h), fun h w => optUndef h, fun zβ za zw zc => ?_⟩, ?_⟩
       ·exact ix_38 (k := x.1) rfl ((evt za 56).trans (optVal (zc.dep 5 56 (by kernel_rfl)) rfl zβ)) (ht1 x.1 (by first | omega | (have zz := zβ; simp only [Bool.and_eq_true, Bool.or_eq_true, Bool.true_and, Bool.not_eq_true', Bool.or_eq_false_iff, Bool.and_eq_false_iff, beq_eq_false_iff_ne, ne_eq, beq_iff_eq, decide_eq_true_eq, decide_eq_false_iff_not, bne_iff_ne, bne_eq_false_iff_eq] at zz; omega))) ((evt za 57).trans (optVal (zc.dep 6 57 (by kernel_rfl)) rfl zβ)) (by first | omega | (have zz := zβ; simp only [Bool.and_eq_true, Bool.or_eq_true, Bool.true_and, Bool.not_eq_true', Bool.or_eq_false_iff, Bool.and_eq_false_iff, beq_eq_false_iff_ne, ne_eq, beq_iff_eq, decide_eq_true_eq, decide_eq_false_iff_not, bne_iff_ne, bne_eq_false_iff_eq] at zz; omega)) ⟨_, rfl, Below.refl _ _, optDef zβ rfl⟩
       refine ⟨⟨_, .yes (c := (decide ((((x.1 : Nat) : Int) : Int) < (((ts.length : Nat) : Int) : Int)))) (d := true) rfl (fun v w h => h), fun h w => optUndef h, fun zβ za zw zc => ?_⟩, ?_⟩
       ·exact ld_4 rfl ((evt za 58).trans (optVal (zc.dep 7 58 (by kernel_rfl)) rfl zβ)) (bkeeps (bstep hb73 zc.below) _ _ (ht2 x.1 (by first | omega | (have zz := zβ; simp only [Bool.and_eq_true, Bool.or_eq_true, Bool.true_and, Bool.not_eq_true', Bool.or_eq_false_iff, Bool.and_eq_false_iff, beq_eq_false_iff_ne, ne_eq, beq_iff_eq, decide_eq_true_eq, decide_eq_false_iff_not, bne_iff_ne, bne_eq_false_iff_eq] at zz; omega)))) ⟨_, rfl, Below.refl _ _, optDef zβ rfl⟩
       refine ⟨⟨true, .none rfl, fun h w => optUndef h, fun zβ za zw zc => ?_⟩, ?_⟩
       ·exact wp_and rfl ((evt za 55).trans (optVal (zc.dep 4 55 (by kernel_rfl)) rfl rfl)) (fun hp => ((evt za 59).trans (optVal (zc.dep 8 59 (by kernel_rfl)) rfl (bMk zβ hp)))) ⟨_, rfl, Below.refl _ _, optDef zβ rfl⟩
       refine ⟨⟨true, .none rfl, fun h w => optUndef h, fun zβ za zw zc => ?_⟩, ?_⟩
       ·exact wp_move rfl ((evt za 60).trans (optVal (zc.dep 9 60 (by kernel_rfl)) rfl rfl)) ⟨_, rfl, Below.refl _ _, optDef zβ rfl⟩
       refine ⟨⟨_, .yes (c := ((decide ((((x.1 : Nat) : Int) : Int) < (((ts.length : Nat) : Int) : Int))) && (bget3 ts x.1))) (d := true) rfl (fun v w h => h), fun h w => optUndef h, fun zβ za zw zc => ?_⟩, ?_⟩
       ·exact fld_36_2 rfl (zc.kn.ev rfl) ⟨_, rfl, Below.refl _ _, optDef zβ rfl⟩
       refine ⟨⟨_, .yes (c := ((decide ((((x.1 : Nat) : Int) : Int) < (((ts.length : Nat) : Int) : Int))) && (bget3 ts x.1))) (d := true) rfl (fun v w h => h), fun h w => optUndef h, fun zβ za zw zc => ?_⟩, ?_⟩
       ·exact ld_34 rfl ((evt za 62).trans (optVal (zc.dep 11 62 (by kernel_rfl)) rfl zβ)) (bkeeps zc.below _ _ ((hB78.cell 3).trans rfl)) (bkeeps zc.below _ _ ((hB78.cell 4).trans rfl)) ⟨_, rfl, Below.refl _ _, optDef zβ rfl⟩
       refine ⟨⟨_, .yes (c := ((decide ((((x.1 : Nat) : Int) : Int) < (((ts.length : Nat) : Int) : Int))) && (bget3 ts x.1))) (d := true) rfl (fun v w h => h), fun h w => optUndef h, fun zβ za zw zc => ?_⟩, ?_⟩
       ·exact wp_call (by kernel_rfl) rfl (hv1 ((evt za 63).trans (optVal (zc.dep 12 63 (by kernel_rfl)) rfl zβ))) (rtrue_any ((lget l x.1).r) _ _ (IsT.below (bstep hb73 zc.below) (InT.isT (hc32 x.1 (by first | omega | (have zz := zβ; simp only [Bool.and_eq_true, Bool.or_eq_true, Bool.true_and, Bool.not_eq_true', Bool.or_eq_false_iff, Bool.and_eq_false_iff, beq_eq_false_iff_ne, ne_eq, beq_iff_eq, decide_eq_true_eq, decide_eq_false_iff_not, bne_iff_ne, bne_eq_false_iff_eq] at zz; omega))).2.2.2.2.2.2))) (fun v w' h => ⟨v, rfl, h.2, optDef zβ h.1⟩)
       refine ⟨⟨_, .yes (c := ((decide ((((x.1 : Nat) : Int) : Int) < (((ts.length : Nat) : Int) : Int))) && (bget3 ts x.1))) (d := true) rfl (fun v w h => h), fun h w => optUndef h, fun zβ za zw zc => ?_⟩, ?_⟩
       ·exact wp_not rfl ((evt za 64).trans (optVal (zc.dep 13 64 (by kernel_rfl)) rfl zβ)) ⟨_, rfl, Below.refl _ _, optDef zβ rfl⟩
       refine ⟨⟨true, .none rfl, fun h w => optUndef h, fun zβ za zw zc => ?_⟩, ?_⟩
       ·exact wp_and rfl ((evt za 61).trans (optVal (zc.dep 10 61 (by kernel_rfl)) rfl rfl)) (fun hp => ((evt za 65).trans (optVal (zc.dep 14 65 (by kernel_rfl)) rfl (bMk zβ hp)))) ⟨_, rfl, Below.refl _ _, optDef zβ rfl⟩
       refine ⟨⟨true, .none rfl, fun h w => optUndef h, fun zβ za zw zc => ?_⟩, ?_⟩
       ·exact wp_move rfl ((evt za 66).trans (optVal (zc.dep 15 66 (by kernel_rfl)) rfl rfl)) ⟨_, rfl, Below.refl _ _, optDef zβ rfl⟩
       refine ⟨⟨_, .yes (c := (((decide ((((x.1 : Nat) : Int) : Int) < (((ts.length : Nat) : Int) : Int))) && (bget3 ts x.1)) && (!(lget l x.1).r.isTrue))) (d := true) rfl (fun v w h => h), fun h w => optUndef h, fun zβ za zw zc => ?_⟩, ?_⟩
       ·exact fld_36_1 rfl (zc.kn.ev rfl) ⟨_, rfl, Below.refl _ _, optDef zβ rfl⟩
       refine ⟨⟨_, .yes (c := (((decide ((((x.1 : Nat) : Int) : Int) < (((ts.length : Nat) : Int) : Int))) && (bget3 ts x.1)) && (!(lget l x.1).r.isTrue))) (d := true) rfl (fun v w h => h), fun h w => optUndef h, fun zβ za zw zc => ?_⟩, ?_⟩
       ·exact ld_34 rfl ((evt za 68).trans (optVal (zc.dep 17 68 (by kernel_rfl)) rfl zβ)) (bkeeps zc.below _ _ ((hB78.cell 1).trans rfl)) (bkeeps zc.below _ _ ((hB78.cell 2).trans rfl)) ⟨_, rfl, Below.refl _ _, optDef zβ rfl⟩
       refine ⟨⟨_, .yes (c := (((decide ((((x.1 : Nat) : Int) : Int) < (((ts.length : Nat) : Int) : Int))) && (bget3 ts x.1)) && (!(lget l x.1).r.isTrue))) (d := true) rfl (fun v w h => h), fun h w => optUndef h, fun zβ za zw zc => ?_⟩, ?_⟩
       ·exact wp_call (by kernel_rfl) rfl (hv1 ((evt za 69).trans (optVal (zc.dep 18 69 (by kernel_rfl)) rfl zβ))) (rtrue_any ((lget l x.1).l) _ _ (IsT.below (bstep hb73 zc.below) (InT.isT (hc32 x.1 (by first | omega | (have zz := zβ; simp only [Bool.and_eq_true, Bool.or_eq_true, Bool.true_and, Bool.not_eq_true', Bool.or_eq_false_iff, Bool.and_eq_false_iff, beq_eq_false_iff_ne, ne_eq, beq_iff_eq, decide_eq_true_eq, decide_eq_false_iff_not, bne_iff_ne, bne_eq_false_iff_eq] at zz; omega))).2.2.2.2.2.1))) (fun v w' h => ⟨v, rfl, h.2, optDef zβ h.1⟩)
       refine ⟨⟨_, .yes (c := (((decide ((((x.1 : Nat) : Int) : Int) < (((ts.length : Nat) : Int) : Int))) && (bget3 ts x.1)) && (!(lget l x.1).r.isTrue))) (d := true) rfl (fun v w h => h), fun h w => optUndef h, fun zβ za zw zc => ?_⟩, ?_⟩
       ·exact wp_not rfl ((evt za 70).trans (optVal (zc.dep 19 70 (by kernel_rfl)) rfl zβ)) ⟨_, rfl, Below.refl _ _, optDef zβ rfl⟩
       refine ⟨⟨true, .none rfl, fun h w => optUndef h, fun zβ za zw zc => ?_⟩, ?_⟩
       ·exact wp_and rfl ((evt za 67).trans (optVal (zc.dep 16 67 (by kernel_rfl)) rfl rfl)) (fun hp => ((evt za 71).trans (optVal (zc.dep 20 71 (by kernel_rfl)) rfl (bMk zβ hp)))) ⟨_, rfl, Below.refl _ _, optDef zβ rfl⟩
       exact trivial
      ·intro za w81 zh hb82 zu
       have zh := zh.cons (d := 72) (v := .bool (((((decide ((((x.1 : Nat) : Int) : Int) < (((ts.length : Nat) : Int) : Int))) && (bget3 ts x.1)) && (!(lget l x.1).r.isTrue)) && (!(lget l x.1).l.isTrue)))) (optVal (zu 21 72 (by kernel_rfl)) rfl rfl)
       clear zu
       refine WE.go zh ?_
       refine WE.next ?_
       refine WC.cond rfl (fun h83 => ?_) (fun h83 => ?_)
       ·have h83 : ((((((x.1 : Nat) : Int) : Int) < (((ts.length : Nat) : Int) : Int)) ∧ ((bget3 ts x.1) = true)) ∧ (¬ ((lget l x.1).r.isTrue = true))) ∧ (¬ ((lget l x.1).l.isTrue = true)) := by simpa using h83
        have htt : turnQ ts l x.1 = true := by
         have z := h83
         unfold turnQ
         simpa [and_assoc] using z
        refine WC.region ?_
        have hB84 := hB78.below hb82
        refine WL.val _ rfl rfl rfl (fun za zC zh zk => ld_36 rfl (zh.ev rfl) ((hB84.cell 0).trans rfl) ((hB84.cell 1).trans rfl) ((hB84.cell 2).trans rfl) ((hB84.cell 3).trans rfl) ((hB84.cell 4).trans rfl) zk) ?_
        refine WL.call rfl rfl rfl (fun za zh zC => wp_call (by kernel_rfl) rfl (hv1 (zh.ev rfl))) (rturn_any _ _ _ _ _ _ _ _ _ _) ?_
        rintro _ w86 ⟨rfl, hq85⟩
        have hb88 : Below w68.heap.size w68 w86 := (bstep hb82 hq85)
        have hB87 := hB70.below hb88
        refine WL.step (post := fun _ w' => Upd g59 w86 w' ∧ Blk w' g59 36 #[.bool ((lget l x.1).neg), .int .i64 ((lget l x.1).r.f), .slice ((A29 x.1)) ((lget l x.1).r.args.length) ((C30 x.1)), .int .i64 ((lget l x.1).l.f), .slice ((A27 x.1)) ((lget l x.1).l.args.length) ((C28 x.1))]) rfl rfl rfl (fun za zC zh zk => st_36 rfl (zh.ev rfl) (zh.ev rfl) rfl rfl rfl rfl rfl hB87 (by first | decide | simp) (fun v => zk v _ ⟨((((Upd.at_ _ _ _ _).trans (Upd.at_ _ _ _ _)).trans (Upd.at_ _ _ _ _)).trans (Upd.at_ _ _ _ _)).trans (Upd.at_ _ _ _ _), ((((hB87.set_ 0 _).set_ 1 _).set_ 2 _).set_ 3 _).set_ 4 _⟩)) ?_
        rintro v92 w89 ⟨hu90, hB91⟩
        have hb93 : Below w.heap.size w w86 := (bstep hb73 hb88)
        have hb94 : Below w52.heap.size w52 w86 := (bstep hb74 hb88)
        have hb95 := upd_below hb93 hu90 (by omega)
        have hb96 := upd_below hb94 hu90 (by omega)
        have hB97 := hB76.below hb88
        have hB98 := upd_blk hB97 hu90 (by omega)
        have hB99 := hB84.below hq85
        have hB100 := upd_blk hB99 hu90 (by omega)
        refine WL.nil (WE.sub (K' := [(0, .agg #[.bool o.lpo, .slice p1 o.prec.length k1, .slice p2 o.weights.length k2, .int .i64 o.var]), (1, .int .i64 k), (2, .slice a l.length c), (3, .int .i64 m9), (4, .slice a3 ts.length c3), (5, .pointer (some ⟨g2, 0, none⟩)), (10, .bool false), (11, .slice ra9 ((x.1 + 1)) rc9), (12, .slice x.2.2.1 x.1 x.2.2.2), (13, .int .i64 (((x.1 : Nat) : Int))), (14, .pointer (some ⟨g34, 0, none⟩)), (15, .pointer (some ⟨g59, 0, none⟩)), (23, .bool (((decide ((20 : Int) < (l.length : Int)) || decide ((400 : Int) < (clSize l : Int))) || (!(smallB l))))), (25, .slice a l.length c), (26, .int .i64 (((l.length : Nat) : Int))), (27, .int .i64 (((x.1 : Nat) : Int))), (28, .bool ((decide ((((x.1 : Nat) : Int) : Int) < (((l.length : Nat) : Int) : Int))))), (72, .bool (((((decide ((((x.1 : Nat) : Int) : Int) < (((ts.length : Nat) : Int) : Int))) && (bget3 ts x.1)) && (!(lget l x.1).r.isTrue)) && (!(lget l x.1).l.isTrue))))]) ⟨rfl, rfl, rfl, rfl, rfl, rfl, rfl, rfl, rfl, rfl, rfl, rfl, rfl, rfl, rfl, rfl, rfl, rfl, trivial⟩ ?_)
        refine WE.next (WC.region (WL.mv rfl rfl rfl rfl rfl ?_))
        refine WL.val _ rfl rfl rfl (fun za zC zh zk => ld_36 rfl (zh.ev rfl) ((hB91.cell 0).trans rfl) ((hB91.cell 1).trans rfl) ((hB91.cell 2).trans rfl) ((hB91.cell 3).trans rfl) ((hB91.cell 4).trans rfl) zk) ?_
        refine WL.step (post := NewRow w89 36 #[.bool ((lget l x.1).neg), .int .i64 ((lget l x.1).r.f), .slice ((A29 x.1)) ((lget l x.1).r.args.length) ((C30 x.1)), .int .i64 ((lget l x.1).l.f), .slice ((A27 x.1)) ((lget l x.1).l.args.length) ((C28 x.1))] 1) rfl rfl rfl (fun za zC zh zk => row_27_1 rfl (zh.ev rfl) (zk _ _ (newRow _ _ _ _))) ?_
        rintro _ w101 ⟨g102, rfl, hg103, hB104, hb105, hz106⟩
        have hl107 : g2 < g102 := by have z1 := hB98.lt; omega
        have hl108 : g34 < g102 := by have z1 := hB100.lt; omega
        have hl109 : g59 < g102 := by have z1 := hB91.lt; omega
        have hl110 : w.heap.size ≤ g102 := by have z2 := (hb95).size; omega
        have hl111 : w52.heap.size ≤ g102 := by have z2 := (hb96).size; omega
        have hb113 : Below w52.heap.size w52 w101 := (bstep hb96 hb105)
        have ho112 := k9.below hb113
        have hb119 : Below w.heap.size w w101 := (bstep hb55 hb113)
        have hin9 : eltL.In (fun b => b < w10.heap.size) w101 (turI ts l x.1) [.bool ((lget l x.1).neg), .int .i64 ((lget l x.1).r.f), .slice ((A29 x.1)) ((lget l x.1).r.args.length) ((C30 x.1)), .int .i64 ((lget l x.1).l.f), .slice ((A27 x.1)) ((lget l x.1).l.args.length) ((C28 x.1))] := by
         unfold turI
         rw [htt]
         exact ⟨_, _, _, _, rfl, InT.below hb119 (InT.mono (fun b hb _ => Nat.lt_of_lt_of_le hb hWB0) (IsT.inT (InT.isT (hc32 x.1 (by first | omega | (simp; omega))).2.2.2.2.2.2))), InT.below hb119 (InT.mono (fun b hb _ => Nat.lt_of_lt_of_le hb hWB0) (IsT.inT (InT.isT (hc32 x.1 (by first | omega | (simp; omega))).2.2.2.2.2.1)))⟩
        have hw011 : w10.heap.size ≤ w101.heap.size := (Nat.le_trans (Nat.le_trans hBw (Nat.le_trans hle7 hc54.size)) hb113.size)
        refine WL.step (post := fun v w' => ∃ ra rc, v = .slice ra (x.1 + 1) rc ∧ TwoX w10.heap.size 36 w' ra9 rc9 ((x.1 + 1)) ((upL (movI (max (min m9 1000) 0) l) x.1 ++ [(movI (max (min m9 1000) 0) l x.1)])) ra rc ((x.1 + 1)) ((upL (turI ts l) x.1 ++ [(turI ts l x.1)])) ∧ Chg (fun b => (Value.slice x.2.2.1 x.1 x.2.2.2).ownBlock = some b) w101 w') rfl rfl rfl (fun za zC zh zk => by
         obtain ⟨S9, hT⟩ := ho112
         exact wp_appD (E := eltL) (S2 := fun b => b < w10.heap.size) (size := 5) (bytes := 72) (z := .agg #[.bool false, .int .i64 0, .slice none 0 0, .int .i64 0, .slice none 0 0]) rfl Try.underlying27 (by kernel_rfl) rfl (by decide) rfl (zh.ev rfl) (zh.ev rfl) hT.r2 hB104 hin9 (fun b q q2 => by have z := (hO2 b q2).1; omega) (by omega) (by omega) (fun ra rc w' h1 h2 h3 => zk _ _ ⟨ra, rc, rfl, hT.grow2 h1 h2 h3 hw011, h2⟩)) ?_
        rintro _ w114 ⟨ra115, rc116, rfl, hT117, hc118⟩
        have hB120 := hB98.below hb105
        have hB121 := hB100.below hb105
        have hB122 := hB91.below hb105
        have hb123 := chg_below hb119 hc118 (fun b hb => (fun h => by have z := hO2 _ h; (try dsimp only at *); omega))
        have hB124 := chg_blk hB120 hc118 (fun h => by have z := hO2 _ h; (try dsimp only at *); omega)
        have hB125 := chg_blk hB121 hc118 (fun h => by have z := hO2 _ h; (try dsimp only at *); omega)
        have hB126 := chg_blk hB122 hc118 (fun h => by have z := hO2 _ h; (try dsimp only at *); omega)
        have hB127 := chg_blk hB104 hc118 (fun h => by have z := hO2 _ h; (try dsimp only at *); omega)
        refine WL.asg rfl rfl rfl rfl rfl (WL.nil (WE.blockNormal (WE.next (WC.region ?_))))
        refine WL.val (.int .i64 ((((x.1 + 1) : Nat) : Int))) rfl rfl rfl (fun za zC zh zk => addb_3 rfl (zh.ev rfl) (zh.ev rfl) (wrap_eq (by omega) (by omega) (by omega)) zk) ?_
        refine WL.mv rfl rfl rfl rfl rfl (WL.nil ?_)
        refine WE.round ((x.1 + 1, (ra9, rc9), (ra115, rc116))) ⟨rfl, rfl, rfl, rfl, rfl, rfl, rfl, rfl, rfl, rfl, rfl, rfl, rfl, trivial⟩ ?_ ?_
        ·exact ⟨by (try dsimp only); omega, (Nat.le_trans (Nat.le_trans (Nat.le_trans hBw (Nat.le_trans hle7 hc54.size)) hb113.size) hc118.size), hb123, hB124, (by dsimp only; rw [upL_succ, upL_succ]; exact hT117)⟩
        ·(try dsimp only); omega
       ·have h83 : ¬ (((((((x.1 : Nat) : Int) : Int) < (((ts.length : Nat) : Int) : Int)) ∧ ((bget3 ts x.1) = true)) ∧ (¬ ((lget l x.1).r.isTrue = true))) ∧ (¬ ((lget l x.1).l.isTrue = true))) := by simpa using h83
        have htt : turnQ ts l x.1 = false := by
         have z := h83
         unfold turnQ
         rw [Bool.eq_false_iff]
         intro q
         apply z
         simpa [and_assoc] using q
        refine WC.skip (WE.next (WC.region (WL.mv rfl rfl rfl rfl rfl ?_)))
        have hB128 := hB70.below hb82
        refine WL.val _ rfl rfl rfl (fun za zC zh zk => ld_36 rfl (zh.ev rfl) ((hB128.cell 0).trans rfl) ((hB128.cell 1).trans rfl) ((hB128.cell 2).trans rfl) ((hB128.cell 3).trans rfl) ((hB128.cell 4).trans rfl) zk) ?_
        refine WL.step (post := NewRow w81 36 #[.bool ((lget l x.1).neg), .int .i64 ((lget l x.1).l.f), .slice ((A27 x.1)) ((lget l x.1).l.args.length) ((C28 x.1)), .int .i64 ((lget l x.1).r.f), .slice ((A29 x.1)) ((lget l x.1).r.args.length) ((C30 x.1))] 1) rfl rfl rfl (fun za zC zh zk => row_27_1 rfl (zh.ev rfl) (zk _ _ (newRow _ _ _ _))) ?_
        rintro _ w129 ⟨g130, rfl, hg131, hB132, hb133, hz134⟩
        have hl135 : g2 < g130 := by have z1 := hB76.lt; have z2 := (hb82).size; omega
        have hl136 : g34 < g130 := by have z1 := hB78.lt; have z2 := (hb82).size; omega
        have hl137 : g59 < g130 := by have z1 := hB128.lt; omega
        have hb138 : Below w.heap.size w w81 := (bstep hb73 hb82)
        have hl139 : w.heap.size ≤ g130 := by have z2 := (hb138).size; omega
        have hb140 : Below w52.heap.size w52 w81 := (bstep hb74 hb82)
        have hl141 : w52.heap.size ≤ g130 := by have z2 := (hb140).size; omega
        have hb143 : Below w52.heap.size w52 w129 := (bstep hb140 hb133)
        have ho142 := k9.below hb143
        have hb149 : Below w.heap.size w w129 := (bstep hb55 hb143)
        have hin9 : eltL.In (fun b => b < w10.heap.size) w129 (turI ts l x.1) [.bool ((lget l x.1).neg), .int .i64 ((lget l x.1).l.f), .slice ((A27 x.1)) ((lget l x.1).l.args.length) ((C28 x.1)), .int .i64 ((lget l x.1).r.f), .slice ((A29 x.1)) ((lget l x.1).r.args.length) ((C30 x.1))] := by
         unfold turI
         rw [htt]
         exact ⟨_, _, _, _, rfl, InT.below hb149 (InT.mono (fun b hb _ => Nat.lt_of_lt_of_le hb hWB0) (IsT.inT (InT.isT (hc32 x.1 (by first | omega | (simp; omega))).2.2.2.2.2.1))), InT.below hb149 (InT.mono (fun b hb _ => Nat.lt_of_lt_of_le hb hWB0) (IsT.inT (InT.isT (hc32 x.1 (by first | omega | (simp; omega))).2.2.2.2.2.2)))⟩
        have hw011 : w10.heap.size ≤ w129.heap.size := (Nat.le_trans (Nat.le_trans hBw (Nat.le_trans hle7 hc54.size)) hb143.size)
        refine WL.step (post := fun v w' => ∃ ra rc, v = .slice ra (x.1 + 1) rc ∧ TwoX w10.heap.size 36 w' ra9 rc9 ((x.1 + 1)) ((upL (movI (max (min m9 1000) 0) l) x.1 ++ [(movI (max (min m9 1000) 0) l x.1)])) ra rc ((x.1 + 1)) ((upL (turI ts l) x.1 ++ [(turI ts l x.1)])) ∧ Chg (fun b => (Value.slice x.2.2.1 x.1 x.2.2.2).ownBlock = some b) w129 w') rfl rfl rfl (fun za zC zh zk => by
         obtain ⟨S9, hT⟩ := ho142
         exact wp_appD (E := eltL) (S2 := fun b => b < w10.heap.size) (size := 5) (bytes := 72) (z := .agg #[.bool false, .int .i64 0, .slice none 0 0, .int .i64 0, .slice none 0 0]) rfl Try.underlying27 (by kernel_rfl) rfl (by decide) rfl (zh.ev rfl) (zh.ev rfl) hT.r2 hB132 hin9 (fun b q q2 => by have z := (hO2 b q2).1; omega) (by omega) (by omega) (fun ra rc w' h1 h2 h3 => zk _ _ ⟨ra, rc, rfl, hT.grow2 h1 h2 h3 hw011, h2⟩)) ?_
        rintro _ w144 ⟨ra145, rc146, rfl, hT147, hc148⟩
        have hb151 : Below w68.heap.size w68 w129 := (bstep hb82 hb133)
        have hB150 := hB76.below hb151
        have hB152 := hB78.below hb151
        have hB153 := hB128.below hb133
        have hb154 := chg_below hb149 hc148 (fun b hb => (fun h => by have z := hO2 _ h; (try dsimp only at *); omega))
        have hB155 := chg_blk hB150 hc148 (fun h => by have z := hO2 _ h; (try dsimp only at *); omega)
        have hB156 := chg_blk hB152 hc148 (fun h => by have z := hO2 _ h; (try dsimp only at *); omega)
        have hB157 := chg_blk hB153 hc148 (fun h => by have z := hO2 _ h; (try dsimp only at *); omega)
        have hB158 := chg_blk hB132 hc148 (fun h => by have z := hO2 _ h; (try dsimp only at *); omega)
        refine WL.asg rfl rfl rfl rfl rfl ?_
        refine WL.nil (WE.sub (K' := [(0, .agg #[.bool o.lpo, .slice p1 o.prec.length k1, .slice p2 o.weights.length k2, .int .i64 o.var]), (1, .int .i64 k), (2, .slice a l.length c), (3, .int .i64 m9), (4, .slice a3 ts.length c3), (5, .pointer (some ⟨g2, 0, none⟩)), (10, .bool false), (11, .slice ra9 ((x.1 + 1)) rc9), (12, .slice ra145 ((x.1 + 1)) rc146), (13, .int .i64 (((x.1 : Nat) : Int))), (14, .pointer (some ⟨g34, 0, none⟩)), (15, .pointer (some ⟨g59, 0, none⟩)), (23, .bool (((decide ((20 : Int) < (l.length : Int)) || decide ((400 : Int) < (clSize l : Int))) || (!(smallB l))))), (25, .slice a l.length c), (26, .int .i64 (((l.length : Nat) : Int))), (27, .int .i64 (((x.1 : Nat) : Int))), (28, .bool ((decide ((((x.1 : Nat) : Int) : Int) < (((l.length : Nat) : Int) : Int))))), (72, .bool (((((decide ((((x.1 : Nat) : Int) : Int) < (((ts.length : Nat) : Int) : Int))) && (bget3 ts x.1)) && (!(lget l x.1).r.isTrue)) && (!(lget l x.1).l.isTrue))))]) ⟨rfl, rfl, rfl, rfl, rfl, rfl, rfl, rfl, rfl, rfl, rfl, rfl, rfl, rfl, rfl, rfl, rfl, rfl, trivial⟩ ?_)
        refine WE.blockNormal (WE.next (WC.region ?_))
        refine WL.val (.int .i64 ((((x.1 + 1) : Nat) : Int))) rfl rfl rfl (fun za zC zh zk => addb_3 rfl (zh.ev rfl) (zh.ev rfl) (wrap_eq (by omega) (by omega) (by omega)) zk) ?_
        refine WL.mv rfl rfl rfl rfl rfl (WL.nil ?_)
        refine WE.round ((x.1 + 1, (ra9, rc9), (ra145, rc146))) ⟨rfl, rfl, rfl, rfl, rfl, rfl, rfl, rfl, rfl, rfl, rfl, rfl, rfl, trivial⟩ ?_ ?_
        ·exact ⟨by (try dsimp only); omega, (Nat.le_trans (Nat.le_trans (Nat.le_trans hBw (Nat.le_trans hle7 hc54.size)) hb143.size) hc148.size), hb154, hB155, (by dsimp only; rw [upL_succ, upL_succ]; exact hT147)⟩
        ·(try dsimp only); omega
    ·have h24 : ¬ ((((x.1 : Nat) : Int) : Int) < (((l.length : Nat) : Int) : Int)) := by simpa using h24
     refine WC.exit (WE.thenExit (WE.thenExit (WE.blockIs rfl (WE.next (WC.seq ?_)))))
     have hxk : x.1 = l.length := by omega
     have hN9 := ho23
     rw [hxk] at hN9
     obtain ⟨S9, hT9⟩ := hN9
     have i1 := hT9.r1.inRow
     have i2 := hT9.r2.inRow
     have hD1 : IsCl w19 (upL (movI (max (min m9 1000) 0) l) l.length) x.2.1.1 x.2.1.2 := ⟨i1.1, by rw [upL_len]; exact i1.2.1, i1.2.2, by rw [upL_len]; omega, fun y hy => by obtain ⟨i, hi, rfl⟩ := upL_mem hy; rw [(mv_sizes hmr hlow hi).1]; exact hl.pl hi, fun y hy => by obtain ⟨i, hi, rfl⟩ := upL_mem hy; rw [(mv_sizes hmr hlow hi).2]; exact hl.pr hi⟩
     have hD2 : IsCl w19 (upL (turI ts l) l.length) x.2.2.1 x.2.2.2 := ⟨i2.1, by rw [upL_len]; exact i2.2.1, i2.2.2, by rw [upL_len]; omega, fun y hy => by obtain ⟨i, hi, rfl⟩ := upL_mem hy; unfold turI tuLi; split; exact hl.pr hi; exact hl.pl hi, fun y hy => by obtain ⟨i, hi, rfl⟩ := upL_mem hy; unfold turI tuLi; split; exact hl.pl hi; exact hl.pr hi⟩
     refine WC.sub (K' := [(0, .agg #[.bool o.lpo, .slice p1 o.prec.length k1, .slice p2 o.weights.length k2, .int .i64 o.var]), (1, .int .i64 k), (2, .slice a l.length c), (3, .int .i64 m9), (4, .slice a3 ts.length c3), (5, .pointer (some ⟨g2, 0, none⟩)), (10, .bool false), (11, .slice x.2.1.1 ((upL (movI (max (min m9 1000) 0) l) l.length).length) x.2.1.2), (12, .slice x.2.2.1 ((upL (turI ts l) l.length).length) x.2.2.2), (23, .bool (((decide ((20 : Int) < (l.length : Int)) || decide ((400 : Int) < (clSize l : Int))) || (!(smallB l))))), (25, .slice a l.length c), (26, .int .i64 (((l.length : Nat) : Int))), (27, .int .i64 (((x.1 : Nat) : Int))), (28, .bool ((decide ((((x.1 : Nat) : Int) : Int) < (((l.length : Nat) : Int) : Int)))))]) ⟨rfl, rfl, rfl, rfl, rfl, rfl, rfl, (by rw [upL_len, ← hxk]; rfl), (by rw [upL_len, ← hxk]; rfl), rfl, rfl, rfl, rfl, rfl, trivial⟩ ?_
     refine WC.region ?_
     refine WL.val _ rfl rfl rfl (fun za zC zh zk => ld_24 rfl (zh.ev rfl) ((hB22.cell 0).trans rfl) ((hB22.cell 1).trans rfl) ((hB22.cell 2).trans rfl) ((hB22.cell 3).trans rfl) zk) ?_
     refine WL.mv rfl rfl rfl rfl rfl (WL.mv rfl rfl rfl rfl rfl ?_)
     refine WL.call rfl rfl rfl (fun za zh zC => wp_call (by kernel_rfl) rfl (hv3 (zh.ev rfl) (zh.ev rfl) (zh.ev rfl))) (sel_any o k l _ _ _ (hl.below hb21) hlz _ (hot.below hb21)) ?_
     rintro v159 w164 ⟨h160, hb161⟩
     obtain ⟨sa162, rfl, hsr163⟩ := SelIs.row2 h160 f1
     refine WL.asg rfl rfl rfl rfl rfl (WL.nil (WE.next (WC.seq (WC.seq (WC.region (WL.mv rfl rfl rfl rfl rfl ?_))))))
     have hB165 := hB22.below hb161
     refine WL.val _ rfl rfl rfl (fun za zC zh zk => ld_24 rfl (zh.ev rfl) ((hB165.cell 0).trans rfl) ((hB165.cell 1).trans rfl) ((hB165.cell 2).trans rfl) ((hB165.cell 3).trans rfl) zk) ?_
     refine WL.mv rfl rfl rfl rfl rfl (WL.mv rfl rfl rfl rfl rfl ?_)
     have hb171 : Below w.heap.size w w164 := (bstep hb21 hb161)
     refine WL.call rfl rfl rfl (fun za zh zC => wp_call (by kernel_rfl) rfl (hv3 (zh.ev rfl) (zh.ev rfl) (zh.ev rfl))) (sel_any o k (upL (movI (max (min m9 1000) 0) l) l.length) _ _ _ (hD1.below hb161) (by rw [upL_len]; exact hlz) _ (hot.below hb171)) ?_
     rintro v166 w172 ⟨h167, hb168⟩
     rw [sel_moved hmr hlow] at h167
     obtain ⟨sa169, rfl, hsr170⟩ := SelIs.row2 h167 f1
     refine WL.call rfl rfl rfl (fun za zh zC => wp_call (by kernel_rfl) rfl (hv2 (zh.ev rfl) (zh.ev rfl))) (num_same (selL (selK o k l)) _ _ _ _ _ (IsInts.below hb168 hsr163) (IsInts.below (Below.refl _ _) hsr170) (by omega)) ?_
     rintro _ w174 ⟨rfl, hq173⟩
     refine WL.val (.bool false) rfl rfl rfl (fun za zC zh zk => wp_not rfl (zh.ev rfl) zk) ?_
     refine WL.nil (WE.next ?_)
     refine WC.condF rfl rfl ?_
     refine WC.skip (WE.next (WC.seq ?_))
     have hb176 : Below w164.heap.size w164 w174 := (bstep hb168 hq173)
     have hB175 := hB165.below hb176
     have hb177 : Below w19.heap.size w19 w174 := (bstep hb161 hb176)
     have hb178 : Below w.heap.size w w174 := (bstep hb21 hb177)
     refine WC.opt [(true, .val (.int .i64 k)), (true, .val (.bool (((k : Int) == (4 : Int))))), (true, .val (.bool (((k : Int) == (4 : Int))))), ((true && !((k : Int) == (4 : Int))), .val (.slice sa162 ((selL (selK o k l)).length) ((selL (selK o k l)).length))), ((true && !((k : Int) == (4 : Int))), .val (.agg #[.bool o.lpo, .slice p1 o.prec.length k1, .slice p2 o.weights.length k2, .int .i64 o.var])), ((true && !((k : Int) == (4 : Int))), .val (.int .i64 k)), ((true && !((k : Int) == (4 : Int))), .val (.slice x.2.2.1 ((upL (turI ts l) l.length).length) x.2.2.2)), ((true && !((k : Int) == (4 : Int))), .mem (fun v w => SelIs w (selK o k (upL (turI ts l) l.length)) v) (fun v w w' hb h => h.below hb)), ((true && !((k : Int) == (4 : Int))), .val (.bool true)), (true, .val (.bool ((((k : Int) == (4 : Int)) || true)))), (true, .val (.bool ((((k : Int) == (4 : Int)) || true)))), ((true && (((k : Int) == (4 : Int)) || true)), .val (.bool true)), (true, .val (.bool (((((k : Int) == (4 : Int)) || true) && true)))), (true, .val (.bool (((((k : Int) == (4 : Int)) || true) && true))))] [(0, .agg #[.bool o.lpo, .slice p1 o.prec.length k1, .slice p2 o.weights.length k2, .int .i64 o.var]), (1, .int .i64 k), (2, .slice a l.length c), (3, .int .i64 m9), (4, .slice a3 ts.length c3), (5, .pointer (some ⟨g2, 0, none⟩)), (11, .slice x.2.1.1 ((upL (movI (max (min m9 1000) 0) l) l.length).length) x.2.1.2), (12, .slice x.2.2.1 ((upL (turI ts l) l.length).length) x.2.2.2), (16, .slice sa162 ((selL (selK o k l)).length) ((selL (selK o k l)).length)), (23, .bool (((decide ((20 : Int) < (l.length : Int)) || decide ((400 : Int) < (clSize l : Int))) || (!(smallB l))))), (25, .slice a l.length c), (26, .int .i64 (((l.length : Nat) : Int))), (27, .int .i64 (((x.1 : Nat) : Int))), (28, .bool ((decide ((((x.1 : Nat) : Int) : Int) < (((l.length : Nat) : Int) : Int))))), (90, .bool false)] ⟨rfl, rfl, rfl, rfl, rfl, rfl, rfl, rfl, rfl, rfl, rfl, rfl, rfl, rfl, rfl, trivial⟩ (by kernel_rfl) (by kernel_rfl) (by kernel_rfl) ?_ ?_
     ·refine ⟨⟨true, .none rfl, fun h w => optUndef h, fun zβ za zw zc => ?_⟩, ?_⟩
      ·exact wp_move rfl (zc.kn.ev rfl) ⟨_, rfl, Below.refl _ _, optDef zβ rfl⟩
      refine ⟨⟨true, .none rfl, fun h w => optUndef h, fun zβ za zw zc => ?_⟩, ?_⟩
      ·exact eql_25 rfl ((evt za 91).trans (optVal (zc.dep 0 91 (by kernel_rfl)) rfl rfl)) (zc.kn.ev rfl) ⟨_, rfl, Below.refl _ _, optDef zβ rfl⟩
      refine ⟨⟨true, .none rfl, fun h w => optUndef h, fun zβ za zw zc => ?_⟩, ?_⟩
      ·exact wp_move rfl ((evt za 92).trans (optVal (zc.dep 1 92 (by kernel_rfl)) rfl rfl)) ⟨_, rfl, Below.refl _ _, optDef zβ rfl⟩
      refine ⟨⟨_, .no (c := ((k : Int) == (4 : Int))) (d := true) rfl (fun v w h => h), fun h w => optUndef h, fun zβ za zw zc => ?_⟩, ?_⟩
      ·exact wp_move rfl (zc.kn.ev rfl) ⟨_, rfl, Below.refl _ _, optDef zβ rfl⟩
      refine ⟨⟨_, .no (c := ((k : Int) == (4 : Int))) (d := true) rfl (fun v w h => h), fun h w => optUndef h, fun zβ za zw zc => ?_⟩, ?_⟩
      ·exact ld_24 rfl (zc.kn.ev rfl) (bkeeps zc.below _ _ ((hB175.cell 0).trans rfl)) (bkeeps zc.below _ _ ((hB175.cell 1).trans rfl)) (bkeeps zc.below _ _ ((hB175.cell 2).trans rfl)) (bkeeps zc.below _ _ ((hB175.cell 3).trans rfl)) ⟨_, rfl, Below.refl _ _, optDef zβ rfl⟩
      refine ⟨⟨_, .no (c := ((k : Int) == (4 : Int))) (d := true) rfl (fun v w h => h), fun h w => optUndef h, fun zβ za zw zc => ?_⟩, ?_⟩
      ·exact wp_move rfl (zc.kn.ev rfl) ⟨_, rfl, Below.refl _ _, optDef zβ rfl⟩
      refine ⟨⟨_, .no (c := ((k : Int) == (4 : Int))) (d := true) rfl (fun v w h => h), fun h w => optUndef h, fun zβ za zw zc => ?_⟩, ?_⟩
      ·exact wp_move rfl (zc.kn.ev rfl) ⟨_, rfl, Below.refl _ _, optDef zβ rfl⟩
      refine ⟨⟨_, .no (c := ((k : Int) == (4 : Int))) (d := true) rfl (fun v w h => h), fun h w => optUndef h, fun zβ za zw zc => ?_⟩, ?_⟩
      ·exact wp_call (by kernel_rfl) rfl (hv3 ((evt za 95).trans (optVal (zc.dep 4 95 (by kernel_rfl)) rfl zβ)) ((evt za 96).trans (optVal (zc.dep 5 96 (by kernel_rfl)) rfl zβ)) ((evt za 97).trans (optVal (zc.dep 6 97 (by kernel_rfl)) rfl zβ))) (sel_any o k (upL (turI ts l) l.length) _ _ _ (hD2.below (bstep hb177 zc.below)) (by rw [upL_len]; exact hlz) _ (hot.below (bstep hb178 zc.below))) (fun v w' h => ⟨v, rfl, h.2, optDef zβ h.1⟩)
      refine ⟨⟨_, .no (c := ((k : Int) == (4 : Int))) (d := true) rfl (fun v w h => h), fun h w => optUndef h, fun zβ za zw zc => ?_⟩, ?_⟩
      ·have zs := (optMem (zc.dep 7 98 (by kernel_rfl)) rfl zβ)
       have hk4 : ¬ k = 4 := by have zz := zβ; simpa using zz
       rw [sel_turned hk4] at zs
       obtain ⟨sb, e, hsb⟩ := SelIs.row2 zs f1
       exact wp_call (by kernel_rfl) rfl (hv2 ((evt za 94).trans (optVal (zc.dep 3 94 (by kernel_rfl)) rfl zβ)) ((evt za 98).trans e)) (num_same (selL (selK o k l)) _ _ _ _ _ (IsInts.below (bstep hb176 zc.below) hsr163) hsb (by omega)) (fun v w' h => ⟨v, rfl, h.2, optDef zβ h.1⟩)
      refine ⟨⟨true, .none rfl, fun h w => optUndef h, fun zβ za zw zc => ?_⟩, ?_⟩
      ·exact wp_or rfl ((evt za 93).trans (optVal (zc.dep 2 93 (by kernel_rfl)) rfl rfl)) (fun hp => ((evt za 99).trans (optVal (zc.dep 8 99 (by kernel_rfl)) rfl (bMkN zβ hp)))) ⟨_, rfl, Below.refl _ _, optDef zβ rfl⟩
      refine ⟨⟨true, .none rfl, fun h w => optUndef h, fun zβ za zw zc => ?_⟩, ?_⟩
      ·exact wp_move rfl ((evt za 100).trans (optVal (zc.dep 9 100 (by kernel_rfl)) rfl rfl)) ⟨_, rfl, Below.refl _ _, optDef zβ rfl⟩
      refine ⟨⟨_, .yes (c := (((k : Int) == (4 : Int)) || true)) (d := true) rfl (fun v w h => h), fun h w => optUndef h, fun zβ za zw zc => ?_⟩, ?_⟩
      ·exact wp_call (by kernel_rfl) rfl (hv0) (wakes_any _) (fun v w' h => ⟨v, rfl, h.2, optDef zβ h.1⟩)
      refine ⟨⟨true, .none rfl, fun h w => optUndef h, fun zβ za zw zc => ?_⟩, ?_⟩
      ·exact wp_and rfl ((evt za 101).trans (optVal (zc.dep 10 101 (by kernel_rfl)) rfl rfl)) (fun hp => ((evt za 102).trans (optVal (zc.dep 11 102 (by kernel_rfl)) rfl (bMk zβ hp)))) ⟨_, rfl, Below.refl _ _, optDef zβ rfl⟩
      refine ⟨⟨true, .none rfl, fun h w => optUndef h, fun zβ za zw zc => ?_⟩, ?_⟩
      ·exact wp_assign rfl ((evt za 103).trans (optVal (zc.dep 12 103 (by kernel_rfl)) rfl rfl)) ⟨_, rfl, Below.refl _ _, optDef zβ rfl⟩
      exact trivial
     ·intro za w180 zh hb181 zu
      have zh := zh.cons (d := 10) (v := .bool (((((k : Int) == (4 : Int)) || true) && true))) (optVal (zu 13 10 (by kernel_rfl)) rfl rfl)
      clear zu
      refine WE.go zh ?_
      refine WE.next (WC.ret (WE.ret1 rfl rfl ?_))
      have hb182 : Below w.heap.size w w180 := (bstep hb178 hb181)
      exact ⟨_, rfl, congrArg Value.bool (by simp), hb182⟩
end Go.Proofs.Ytnokgjajcnhkkaa

/- Arguments of a law, opened: literals, clauses. -/
namespace Go.Proofs.Ytnokgjajcnhkkaa
open Go.ChangeShapes Go.WideShapes Go.ChangeAt Go.RowKit
section
variable {H : Type} {enc : TypeId × Value → H} {w : World} {base : Nat} {spare : Nat → Bool} {held : Bool}
def IsLiC (w : World) (x : Li) (cs : List Value) : Prop := eltL.In (fun _ => True) w x cs
set_option maxRecDepth 100000 in
theorem open_Li (fuel : Nat) (cs : List Value) (x : DataW H × List MemPlace) (h : DataW.trod enc Try.prog w base spare held fuel 36 cs = some x) :
    ∃ y : Li, IsLiC w y cs ∧ 1 + y.size ≤ Rows.uptoBulk x.1 := by
  have hC : Try.prog.cellsOf 36 = 5 := by kernel_rfl
  have hC4 : Try.prog.cellsOf 4 = 1 := by kernel_rfl
  have hC32 : Try.prog.cellsOf 34 = 2 := by kernel_rfl
  obtain ⟨xs, n, rfl, rfl, hl, hlen, hf⟩ := DataW.trod_struct Try.underlying36 h
  rw [hC] at hl
  match xs, hlen, cs, hl with
  | [y0, y1, y2], _, [c0, c1, c2, c3, c4], _ =>
    have g0 : DataW.trod enc Try.prog w base spare held n 4 [c0] = some y0 := by simpa [hC4] using hf 0 _ rfl
    have g1 : DataW.trod enc Try.prog w base spare held n 34 [c1, c2] = some y1 := by simpa [hC32] using hf 1 _ rfl
    have g2 : DataW.trod enc Try.prog w base spare held n 34 [c3, c4] = some y2 := by simpa [hC32] using hf 2 _ rfl
    obtain ⟨b, e0, rfl⟩ := DataW.trod_bool Try.underlying4 g0
    simp only [List.cons.injEq, and_true] at e0
    subst e0
    obtain ⟨t1, u1, u2, e1, h1, s1⟩ := open_T _ _ _ g1
    obtain ⟨t2, u3, u4, e2, h2, s2⟩ := open_T _ _ _ g2
    simp only [List.cons.injEq, and_true] at e1 e2
    obtain ⟨rfl, rfl⟩ := e1
    obtain ⟨rfl, rfl⟩ := e2
    exact ⟨⟨b, t1, t2⟩, ⟨_, _, _, _, rfl, h1.inTrue, h2.inTrue⟩, by simp only [List.map_cons, List.map_nil, Rows.uptoBulk, Rows.uptoBulkAll, Li.size]; omega⟩
set_option maxRecDepth 100000 in
theorem arg_Cl {r : Reach} {b : Nat} {v : Value} {d : DataW H} {p : List MemPlace} (h : Value.okWide Try.prog w r b 27 v) (ht : DataW.Trod enc Try.prog w base spare held 27 v d p) (hk : Rows.uptoBulk d ≤ 1048576) :
    ∃ (l : List Li) (a : Option Addr) (c : Nat), v = .slice a l.length c ∧ IsCl w l a c ∧ l.length ≤ 1048576 ∧ ∀ x ∈ l, x.size ≤ 1048576 := by
  obtain ⟨a, n, c, rfl⟩ := okWide_slice Try.underlying27 h
  obtain ⟨fuel, hf⟩ := ht
  obtain ⟨l, a', c', ds, sp, e, h1, h2, h3, h4, h5, h6⟩ := open_row Try.underlying27 (k := 5) (by kernel_rfl) (by omega) hf (R := IsLiC) (S := fun y d => 1 + y.size ≤ Rows.uptoBulk d) (fun n cs x hx => open_Li n cs x hx)
  have e' : Value.slice a n c = .slice a' l.length c' := by simpa [Value.cells] using e
  have hlen : l.length ≤ 1048576 := by
    rcases h5 with ⟨_, rfl, _⟩ | e
    · simp
    · have := len_le_bulk ds
      have e2 : d = .slice ds sp := e
      rw [e2] at hk; simp only [Rows.uptoBulk] at hk; omega
  have hsz : ∀ x ∈ l, x.size ≤ 1048576 := fun x hx => by
    obtain ⟨i, hi, rfl⟩ := List.getElem_of_mem hx
    have hs := h6 i hi (by omega)
    rcases h5 with ⟨_, rfl, _⟩ | e
    · simp at hi
    · have := bulk_at (List.getElem_mem (show i < ds.length by omega))
      have e2 : d = .slice ds sp := e
      rw [e2] at hk; simp only [Rows.uptoBulk] at hk; omega
  exact ⟨l, a', c', e', ⟨inRow_of (E := eltL) (fun _ _ h => h) h3, h1, h2, by omega, fun x hx => by have := hsz x hx; unfold Li.size at this; omega, fun x hx => by have := hsz x hx; unfold Li.size at this; omega⟩, hlen, hsz⟩
end
end Go.Proofs.Ytnokgjajcnhkkaa

/- Signatures: how they lie in memory, that what reads as one is one; which ones may be, as plain functions. -/
namespace Go.Proofs.Ytnokgjajcnhkkaa
open Go.RowKit
/-- A symbol. -/
structure Sy where
  name : ByteArray
  ar : Int
  pred : Bool
  deriving DecidableEq
instance : Inhabited Sy := ⟨⟨ByteArray.empty, 0, false⟩⟩
def IsSy (_ : World) (x : Sy) (cs : List Value) : Prop := cs = [.string x.name, .int .i64 x.ar, .bool x.pred] ∧ I64 x.ar ∧ x.name.size ≤ maxLen
def IsSys (w : World) (l : List Sy) (a : Option Addr) : Prop := IsRow w 3 IsSy l a
theorem IsSys.below {w w' : World} (hb : Below w.heap.size w w') {l : List Sy} {a : Option Addr} (h : IsSys w l a) : IsSys w' l a := IsRow.keep h hb (fun _ _ h => h)
theorem IsSys.at_ {w w' : World} {l : List Sy} {a : Option Addr} (h : IsSys w l a) (hb : Below w.heap.size w w') (k : Nat) (hk : k < l.length) :
    ∃ (b o : Nat), a = some ⟨b, o, none⟩ ∧ w'.cell? ⟨b, o + k * 3, none⟩ = some (.string l[k].name) ∧ w'.cell? ⟨b, o + k * 3 + 1, none⟩ = some (.int .i64 l[k].ar) ∧ w'.cell? ⟨b, o + k * 3 + 2, none⟩ = some (.bool l[k].pred) ∧ I64 l[k].ar ∧ l[k].name.size ≤ maxLen := by
  obtain ⟨b, o, cs, h1, _, h3, rfl, h4, h5⟩ := h k hk
  have e0 := h3 0 (by omega)
  have e1 := h3 1 (by omega)
  have e2 := h3 2 (by omega)
  simp only [List.getElem?_cons_zero, List.getElem?_cons_succ, Nat.add_zero] at e0 e1 e2
  exact ⟨b, o, h1, bkeeps hb _ _ e0, bkeeps hb _ _ e1, bkeeps hb _ _ e2, h4, h5⟩
/-- The value is the signature. -/
def IsSig (w : World) (l : List Sy) (v : Value) : Prop := ∃ (a : Option Addr) (c : Nat), v = .agg #[.slice a l.length c] ∧ l.length ≤ c ∧ c ≤ maxLen ∧ IsSys w l a
theorem IsSig.below {w w' : World} (hb : Below w.heap.size w w') {l : List Sy} {v : Value} (h : IsSig w l v) : IsSig w' l v := by
  obtain ⟨a, c, h1, h2, h3, h4⟩ := h
  exact ⟨a, c, h1, h2, h3, h4.below hb⟩
section
variable {H : Type} {enc : TypeId × Value → H} {w : World} {base : Nat} {spare : Nat → Bool} {held : Bool}
end
/-! ### The plain functions -/
def byteOk (c : UInt8) : Bool := (97 ≤ c && c ≤ 122) || (65 ≤ c && c ≤ 90) || (48 ≤ c && c ≤ 57) || c == 95
def named (s : ByteArray) : Bool := decide (1 ≤ s.size ∧ s.size ≤ 40) && s.data.toList.all byteOk
def Sy.one (x : Sy) : Int := if named x.name then (if x.ar < 0 ∨ 6 < x.ar then 112 else 0) else 111
end Go.Proofs.Ytnokgjajcnhkkaa

namespace Go.Proofs.Ytnokgjajcnhkkaa
open Go.ChangeShapes Go.WideShapes Go.ChangeAt Go.RowKit
section
variable {H : Type} {enc : TypeId × Value → H} {w : World} {base : Nat} {spare : Nat → Bool} {held : Bool}
set_option maxRecDepth 100000 in
theorem arg_Od {r : Reach} {b : Nat} {v : Value} {d : DataW H} {p : List MemPlace} (h : Value.okWide Try.prog w r b 24 v) (ht : DataW.Trod enc Try.prog w base spare held 24 v d p) :
    ∃ o : Od, IsOd w o v := by
  obtain ⟨cs, rfl, _⟩ := okWide_struct Try.underlying24 h
  obtain ⟨fuel, hf⟩ := ht
  obtain ⟨t, v0, v1, v2, v3, e, h1⟩ := open_Od _ _ _ hf
  have e' : cs = #[v0, v1, v2, v3] := by
    apply Array.toList_inj.1
    exact e
  subst e'
  exact ⟨t, h1⟩
end
end Go.Proofs.Ytnokgjajcnhkkaa
