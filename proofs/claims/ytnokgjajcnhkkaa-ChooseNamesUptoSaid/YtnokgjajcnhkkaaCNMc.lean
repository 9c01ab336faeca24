/- The library's Sort, Compact and Contains of integers, as their contracts have it, at this program. -/
import Derived.Test.YtnokgjajcnhkkaaCNMa
import Derived.Test.YtnokgjajcnhkkaaCNMb
import Derived.Sort.Walk0
import Derived.Test.YtnokgjajcnhkkaaProg
import Derived.Shelf.SlGeneric
import Derived.Ground.SlgmProg
import Derived.Shelf.SortM.Plain
import Derived.Shelf.SortM.SortNone
import Derived.Shelf.Slices.CompactI
import Derived.Shelf.Slices.Empties
import Derived.Shelf.Slices.Turned
import Derived.Ground.NamesProg
import Derived.Ground.Names2Prog

/- What clauses weigh: the program and the document. -/
namespace Go.Proofs.Ytnokgjajcnhkkaa
open Go.RowKit Go
set_option linter.unusedVariables false
set_option linter.unusedSimpArgs false
theorem rsize_ok (t : T) (w : World) (v : Value) (hz : t.size ≤ 4294967296) (hv : IsT w t v) : Calls Try.prog 35 #[v] w (Ret fun v' w' => v' = .int .i64 (t.size : Int) ∧ Below w.heap.size w w') :=
 (size_any t w v hv).mono fun e w' ⟨h1, h2⟩ => ⟨_, h1, by rw [wrap64_id (by omega)], h2⟩
set_option maxRecDepth 100000 in
theorem tsize_any : ∀ (t : T) (w : World) (v : Value), t.size ≤ 4294967296 → IsT w t v → Calls Try.prog 38 #[v] w (Ret fun v' w' => v' = .int .i64 (t.size : Int) ∧ Below w.heap.size w w') := by
 refine T.ind (fun f l ih => ?_)
 intro w v hz hv
 have hv0 := hv
 have hlen := len_le_sizeL2 l
 have hz' := hz
 simp only [T.size] at hz'
 obtain ⟨hf, a, c, rfl, hc, hm, hl⟩ := hv
 have hf' := hf
 unfold I64 at hf'
 refine Calls.walk (l := [.agg #[.int .i64 f, .slice a l.length c]]) Try.func38 rfl (by kernel_rfl) ?_
 refine WC.sub (K' := [(0, .agg #[.int .i64 f, .slice a l.length c])]) ⟨rfl, trivial⟩ ?_
 refine WC.seq (WC.region ?_)
 refine WL.step (post := NewBlk w 34 #[.int .i64 f, .slice a l.length c]) rfl rfl rfl (fun za zC zh zk => box_34 rfl (zh.ev rfl) (zk _ _ (newBlk _ _ _))) ?_
 rintro _ w1 ⟨g2, rfl, hg3, hB4, hb5, hz6⟩
 have hl7 : w.heap.size ≤ g2 := by omega
 refine WL.asg rfl rfl rfl rfl rfl (WL.nil (WE.next (WC.seq (WC.region (WL.asg rfl rfl rfl rfl rfl (WL.nil (WE.next (WC.seq (WC.seq (WC.region ?_))))))))))
 refine WL.val _ rfl rfl rfl (fun za zC zh zk => fld_34_1 rfl (zh.ev rfl) zk) ?_
 refine WL.val _ rfl rfl rfl (fun za zC zh zk => ld_32 rfl (zh.ev rfl) ((hB4.cell 1).trans rfl) zk) ?_
 refine WL.val (.int .i64 (((l.length : Nat) : Int))) rfl rfl rfl (fun za zC zh zk => len_32 rfl (zh.ev rfl) zk) ?_
 refine WL.mv rfl rfl rfl rfl rfl (WL.nil (WE.next (WC.block ?_)))
 refine WC.loop (X := Nat) (fun k => l.length - k) (fun k => [(0, .agg #[.int .i64 f, .slice a l.length c]), (1, .pointer (some ⟨g2, 0, none⟩)), (2, .int .i64 0), (3, .int .i64 ((((1 + T.sizeL (l.take k)) : Nat) : Int))), (7, .slice a l.length c), (8, .int .i64 (((l.length : Nat) : Int))), (9, .int .i64 (((k : Nat) : Int)))]) (fun k w8 => k ≤ l.length ∧ Below w.heap.size w w8 ∧ Blk w8 g2 34 #[.int .i64 f, .slice a l.length c]) 0 ⟨rfl, rfl, rfl, rfl, rfl, rfl, rfl, trivial⟩ ?_ ?_
 ·exact ⟨Nat.zero_le _, hb5, hB4⟩
 ·rintro k w8 ⟨hk, hb9, hB10⟩
  refine WC.seq (WC.region ?_)
  refine WL.val (.bool ((decide ((((k : Nat) : Int) : Int) < (((l.length : Nat) : Int) : Int))))) rfl rfl rfl (fun za zC zh zk => lss_3 rfl (zh.ev rfl) (zh.ev rfl) zk) ?_
  refine WL.nil (WE.next (WC.seq ?_))
  refine WC.cond rfl (fun h11 => ?_) (fun h11 => ?_)
  ·have h11 : (((k : Nat) : Int) : Int) < (((l.length : Nat) : Int) : Int) := by simpa using h11
   refine WC.skip (WE.next (WC.seq (WC.block (WC.seq (WC.region ?_)))))
   obtain ⟨b12, o13, A14, C15, ha16, hc17⟩ := IsTs.open hl
   refine WL.val _ rfl rfl rfl (fun za zC zh zk => ix_32 (k := k) rfl (zh.ev rfl) (ha16 k (by first | omega | (simp; omega))) (zh.ev rfl) (by first | omega | (simp; omega)) zk) ?_
   refine WL.val _ rfl rfl rfl (fun za zC zh zk => ld_34 rfl (zh.ev rfl) (bkeeps hb9 _ _ (hc17 k (by first | omega | (simp; omega))).1) (bkeeps hb9 _ _ (hc17 k (by first | omega | (simp; omega))).2.1) zk) ?_
   refine WL.step (post := NewBlk w8 34 #[.int .i64 0, .slice none 0 0]) rfl rfl rfl (fun za zC zh zk => alloc_34 rfl (zk _ _ (newBlk _ _ _))) ?_
   rintro _ w18 ⟨g19, rfl, hg20, hB21, hb22, hz23⟩
   have hl24 : g2 < g19 := by have z1 := hB10.lt; omega
   have hl25 : w.heap.size ≤ g19 := by have z2 := (hb9).size; omega
   refine WL.step (post := fun _ w' => Upd g19 w18 w' ∧ Blk w' g19 34 #[.int .i64 ((tget l k).f), .slice ((A14 k)) ((tget l k).args.length) ((C15 k))]) rfl rfl rfl (fun za zC zh zk => st_34 rfl (zh.ev rfl) (zh.ev rfl) rfl rfl hB21 (by first | decide | simp) (fun v => zk v _ ⟨(Upd.at_ _ _ _ _).trans (Upd.at_ _ _ _ _), (hB21.set_ 0 _).set_ 1 _⟩)) ?_
   rintro v29 w26 ⟨hu27, hB28⟩
   have hb30 : Below w.heap.size w w18 := (bstep hb9 hb22)
   have hb31 := upd_below hb30 hu27 (by omega)
   have hB32 := hB10.below hb22
   have hB33 := upd_blk hB32 hu27 (by omega)
   refine WL.nil (WE.next (WC.region (WL.mv rfl rfl rfl rfl rfl ?_)))
   refine WL.val _ rfl rfl rfl (fun za zC zh zk => ld_34 rfl (zh.ev rfl) ((hB28.cell 0).trans rfl) ((hB28.cell 1).trans rfl) zk) ?_
   refine WL.call rfl rfl rfl (fun za zh zC => wp_call (by kernel_rfl) rfl (hv1 (zh.ev rfl))) (ih _ (tget_mem (by omega)) _ _ (size_at2 (by omega) hz) (IsT.below hb31 (hc17 k (by first | omega | (simp; omega))).2.2)) ?_
   rintro _ w35 ⟨rfl, hq34⟩
   refine WL.val (.int .i64 ((((1 + T.sizeL (l.take (k + 1))) : Nat) : Int))) rfl rfl rfl (fun za zC zh zk => addb_3 rfl (zh.ev rfl) (zh.ev rfl) (wrap_eq (by rw [sizeL_take3 (by omega)]; omega) (by omega) (by have z := sizeL_take3 (l := l) (k := k) (by omega); have z2 := T.sizeL_take_le l (k + 1); omega)) zk) ?_
   refine WL.asg rfl rfl rfl rfl rfl (WL.nil (WE.blockNormal (WE.next (WC.region ?_))))
   refine WL.val (.int .i64 ((((k + 1) : Nat) : Int))) rfl rfl rfl (fun za zC zh zk => addb_3 rfl (zh.ev rfl) (zh.ev rfl) (wrap_eq (by omega) (by omega) (by omega)) zk) ?_
   refine WL.mv rfl rfl rfl rfl rfl (WL.nil ?_)
   refine WE.round (k + 1) ⟨rfl, rfl, rfl, rfl, rfl, rfl, rfl, trivial⟩ ?_ ?_
   ·have hb36 : Below w.heap.size w w35 := (bstep hb31 hq34)
    have hB37 := hB33.below hq34
    exact ⟨by omega, hb36, hB37⟩
   ·omega
  ·have h11 : ¬ ((((k : Nat) : Int) : Int) < (((l.length : Nat) : Int) : Int)) := by simpa using h11
   refine WC.exit (WE.thenExit (WE.thenExit (WE.blockIs rfl (WE.next (WC.seq (WC.region (WL.mv rfl rfl rfl rfl rfl (WL.asg rfl rfl rfl rfl rfl (WL.nil (WE.next (WC.ret (WE.ret1 rfl rfl ?_))))))))))))
   refine ⟨_, rfl, ?_, hb9⟩
   rw [List.take_of_length_le (show l.length ≤ k by omega), T.size]
set_option maxRecDepth 100000 in
theorem ptrue_any (t : T) (w : World) (v : Value) (hv : IsT w t v) : Calls Try.prog 39 #[v] w (Ret fun v' w' => v' = .bool t.isTrue ∧ Below w.heap.size w w') := by
 obtain ⟨hf, a, c, rfl, _, _, _⟩ := hv.form
 refine Calls.walk (l := [.agg #[.int .i64 t.f, .slice a t.args.length c]]) Try.func39 rfl (by kernel_rfl) ?_
 refine WC.sub (K' := [(0, .agg #[.int .i64 t.f, .slice a t.args.length c])]) ⟨rfl, trivial⟩ ?_
 refine WC.seq (WC.region ?_)
 refine WL.step (post := NewBlk w 34 #[.int .i64 t.f, .slice a t.args.length c]) rfl rfl rfl (fun za zC zh zk => box_34 rfl (zh.ev rfl) (zk _ _ (newBlk _ _ _))) ?_
 rintro _ w1 ⟨g2, rfl, hg3, hB4, hb5, hz6⟩
 have hl7 : w.heap.size ≤ g2 := by omega
 refine WL.asg rfl rfl rfl rfl rfl (WL.nil (WE.next (WC.seq ?_)))
 refine WC.opt [(true, .val (.pointer (some ⟨g2, 0, none⟩))), (true, .val (.int .i64 t.f)), (true, .val (.bool (((t.f : Int) == (0 : Int))))), (true, .val (.bool (((t.f : Int) == (0 : Int))))), ((true && ((t.f : Int) == (0 : Int))), .val (.pointer (some ⟨g2, 1, none⟩))), ((true && ((t.f : Int) == (0 : Int))), .val (.slice a t.args.length c)), ((true && ((t.f : Int) == (0 : Int))), .val (.int .i64 (((t.args.length : Nat) : Int)))), ((true && ((t.f : Int) == (0 : Int))), .val (.bool (((((t.args.length : Nat) : Int) : Int) == (0 : Int))))), (true, .val (.bool ((((t.f : Int) == (0 : Int)) && ((((t.args.length : Nat) : Int) : Int) == (0 : Int)))))), (true, .val (.bool ((((t.f : Int) == (0 : Int)) && ((((t.args.length : Nat) : Int) : Int) == (0 : Int))))))] [(0, .agg #[.int .i64 t.f, .slice a t.args.length c]), (1, .pointer (some ⟨g2, 0, none⟩))] ⟨rfl, rfl, trivial⟩ (by kernel_rfl) (by kernel_rfl) (by kernel_rfl) ?_ ?_
 ·refine ⟨⟨true, .none rfl, fun h w => optUndef h, fun zβ za zw zc => ?_⟩, ?_⟩
  ·exact fld_34_0 rfl (zc.kn.ev rfl) ⟨_, rfl, Below.refl _ _, optDef zβ rfl⟩
  refine ⟨⟨true, .none rfl, fun h w => optUndef h, fun zβ za zw zc => ?_⟩, ?_⟩
  ·exact ld_3 rfl ((evt za 3).trans (optVal (zc.dep 0 3 (by kernel_rfl)) rfl rfl)) (bkeeps zc.below _ _ ((hB4.cell 0).trans rfl)) ⟨_, rfl, Below.refl _ _, optDef zβ rfl⟩
  refine ⟨⟨true, .none rfl, fun h w => optUndef h, fun zβ za zw zc => ?_⟩, ?_⟩
  ·exact eql_3 rfl ((evt za 4).trans (optVal (zc.dep 1 4 (by kernel_rfl)) rfl rfl)) (zc.kn.ev rfl) ⟨_, rfl, Below.refl _ _, optDef zβ rfl⟩
  refine ⟨⟨true, .none rfl, fun h w => optUndef h, fun zβ za zw zc => ?_⟩, ?_⟩
  ·exact wp_move rfl ((evt za 5).trans (optVal (zc.dep 2 5 (by kernel_rfl)) rfl rfl)) ⟨_, rfl, Below.refl _ _, optDef zβ rfl⟩
  refine ⟨⟨_, .yes (c := ((t.f : Int) == (0 : Int))) (d := true) rfl (fun v w h => h), fun h w => optUndef h, fun zβ za zw zc => ?_⟩, ?_⟩
  ·exact fld_34_1 rfl (zc.kn.ev rfl) ⟨_, rfl, Below.refl _ _, optDef zβ rfl⟩
  refine ⟨⟨_, .yes (c := ((t.f : Int) == (0 : Int))) (d := true) rfl (fun v w h => h), fun h w => optUndef h, fun zβ za zw zc => ?_⟩, ?_⟩
  ·exact ld_32 rfl ((evt za 7).trans (optVal (zc.dep 4 7 (by kernel_rfl)) rfl zβ)) (bkeeps zc.below _ _ ((hB4.cell 1).trans rfl)) ⟨_, rfl, Below.refl _ _, optDef zβ rfl⟩
  refine ⟨⟨_, .yes (c := ((t.f : Int) == (0 : Int))) (d := true) rfl (fun v w h => h), fun h w => optUndef h, fun zβ za zw zc => ?_⟩, ?_⟩
  ·exact len_32 rfl ((evt za 8).trans (optVal (zc.dep 5 8 (by kernel_rfl)) rfl zβ)) ⟨_, rfl, Below.refl _ _, optDef zβ rfl⟩
  refine ⟨⟨_, .yes (c := ((t.f : Int) == (0 : Int))) (d := true) rfl (fun v w h => h), fun h w => optUndef h, fun zβ za zw zc => ?_⟩, ?_⟩
  ·exact eql_3 rfl ((evt za 9).trans (optVal (zc.dep 6 9 (by kernel_rfl)) rfl zβ)) (zc.kn.ev rfl) ⟨_, rfl, Below.refl _ _, optDef zβ rfl⟩
  refine ⟨⟨true, .none rfl, fun h w => optUndef h, fun zβ za zw zc => ?_⟩, ?_⟩
  ·exact wp_and rfl ((evt za 6).trans (optVal (zc.dep 3 6 (by kernel_rfl)) rfl rfl)) (fun hp => ((evt za 10).trans (optVal (zc.dep 7 10 (by kernel_rfl)) rfl (bMk zβ hp)))) ⟨_, rfl, Below.refl _ _, optDef zβ rfl⟩
  refine ⟨⟨true, .none rfl, fun h w => optUndef h, fun zβ za zw zc => ?_⟩, ?_⟩
  ·exact wp_assign rfl ((evt za 11).trans (optVal (zc.dep 8 11 (by kernel_rfl)) rfl rfl)) ⟨_, rfl, Below.refl _ _, optDef zβ rfl⟩
  exact trivial
 ·intro za w8 zh hb9 zu
  have zh := zh.cons (d := 2) (v := .bool ((((t.f : Int) == (0 : Int)) && ((((t.args.length : Nat) : Int) : Int) == (0 : Int))))) (optVal (zu 9 2 (by kernel_rfl)) rfl rfl)
  clear zu
  refine WE.go zh ?_
  refine WE.next (WC.ret (WE.ret1 rfl rfl ?_))
  have hb10 : Below w.heap.size w w8 := (bstep hb5 hb9)
  refine ⟨_, rfl, congrArg Value.bool ?_, hb10⟩
  rw [Bool.eq_iff_iff, T.isTrue_iff]; simp
set_option maxRecDepth 100000 in
theorem rtrue_any (t : T) (w : World) (v : Value) (hv : IsT w t v) : Calls Try.prog 11 #[v] w (Ret fun v' w' => v' = .bool t.isTrue ∧ Below w.heap.size w w') := by
 obtain ⟨hf, a, c, rfl, _, _, _⟩ := hv.form
 refine Calls.walk (l := [.agg #[.int .i64 t.f, .slice a t.args.length c]]) Try.func11 rfl (by kernel_rfl) ?_
 refine WC.sub (K' := [(0, .agg #[.int .i64 t.f, .slice a t.args.length c])]) ⟨rfl, trivial⟩ ?_
 refine WC.seq (WC.region ?_)
 refine WL.step (post := NewBlk w 34 #[.int .i64 t.f, .slice a t.args.length c]) rfl rfl rfl (fun za zC zh zk => box_34 rfl (zh.ev rfl) (zk _ _ (newBlk _ _ _))) ?_
 rintro _ w1 ⟨g2, rfl, hg3, hB4, hb5, hz6⟩
 have hl7 : w.heap.size ≤ g2 := by omega
 refine WL.asg rfl rfl rfl rfl rfl (WL.nil (WE.next (WC.seq ?_)))
 refine WC.opt [(true, .val (.pointer (some ⟨g2, 0, none⟩))), (true, .val (.int .i64 t.f)), (true, .val (.bool (((t.f : Int) == (0 : Int))))), (true, .val (.bool (((t.f : Int) == (0 : Int))))), ((true && ((t.f : Int) == (0 : Int))), .val (.pointer (some ⟨g2, 1, none⟩))), ((true && ((t.f : Int) == (0 : Int))), .val (.slice a t.args.length c)), ((true && ((t.f : Int) == (0 : Int))), .val (.int .i64 (((t.args.length : Nat) : Int)))), ((true && ((t.f : Int) == (0 : Int))), .val (.bool (((((t.args.length : Nat) : Int) : Int) == (0 : Int))))), (true, .val (.bool ((((t.f : Int) == (0 : Int)) && ((((t.args.length : Nat) : Int) : Int) == (0 : Int)))))), (true, .val (.bool ((((t.f : Int) == (0 : Int)) && ((((t.args.length : Nat) : Int) : Int) == (0 : Int))))))] [(0, .agg #[.int .i64 t.f, .slice a t.args.length c]), (1, .pointer (some ⟨g2, 0, none⟩))] ⟨rfl, rfl, trivial⟩ (by kernel_rfl) (by kernel_rfl) (by kernel_rfl) ?_ ?_
 ·refine ⟨⟨true, .none rfl, fun h w => optUndef h, fun zβ za zw zc => ?_⟩, ?_⟩
  ·exact fld_34_0 rfl (zc.kn.ev rfl) ⟨_, rfl, Below.refl _ _, optDef zβ rfl⟩
  refine ⟨⟨true, .none rfl, fun h w => optUndef h, fun zβ za zw zc => ?_⟩, ?_⟩
  ·exact ld_3 rfl ((evt za 3).trans (optVal (zc.dep 0 3 (by kernel_rfl)) rfl rfl)) (bkeeps zc.below _ _ ((hB4.cell 0).trans rfl)) ⟨_, rfl, Below.refl _ _, optDef zβ rfl⟩
  refine ⟨⟨true, .none rfl, fun h w => optUndef h, fun zβ za zw zc => ?_⟩, ?_⟩
  ·exact eql_3 rfl ((evt za 4).trans (optVal (zc.dep 1 4 (by kernel_rfl)) rfl rfl)) (zc.kn.ev rfl) ⟨_, rfl, Below.refl _ _, optDef zβ rfl⟩
  refine ⟨⟨true, .none rfl, fun h w => optUndef h, fun zβ za zw zc => ?_⟩, ?_⟩
  ·exact wp_move rfl ((evt za 5).trans (optVal (zc.dep 2 5 (by kernel_rfl)) rfl rfl)) ⟨_, rfl, Below.refl _ _, optDef zβ rfl⟩
  refine ⟨⟨_, .yes (c := ((t.f : Int) == (0 : Int))) (d := true) rfl (fun v w h => h), fun h w => optUndef h, fun zβ za zw zc => ?_⟩, ?_⟩
  ·exact fld_34_1 rfl (zc.kn.ev rfl) ⟨_, rfl, Below.refl _ _, optDef zβ rfl⟩
  refine ⟨⟨_, .yes (c := ((t.f : Int) == (0 : Int))) (d := true) rfl (fun v w h => h), fun h w => optUndef h, fun zβ za zw zc => ?_⟩, ?_⟩
  ·exact ld_32 rfl ((evt za 7).trans (optVal (zc.dep 4 7 (by kernel_rfl)) rfl zβ)) (bkeeps zc.below _ _ ((hB4.cell 1).trans rfl)) ⟨_, rfl, Below.refl _ _, optDef zβ rfl⟩
  refine ⟨⟨_, .yes (c := ((t.f : Int) == (0 : Int))) (d := true) rfl (fun v w h => h), fun h w => optUndef h, fun zβ za zw zc => ?_⟩, ?_⟩
  ·exact len_32 rfl ((evt za 8).trans (optVal (zc.dep 5 8 (by kernel_rfl)) rfl zβ)) ⟨_, rfl, Below.refl _ _, optDef zβ rfl⟩
  refine ⟨⟨_, .yes (c := ((t.f : Int) == (0 : Int))) (d := true) rfl (fun v w h => h), fun h w => optUndef h, fun zβ za zw zc => ?_⟩, ?_⟩
  ·exact eql_3 rfl ((evt za 9).trans (optVal (zc.dep 6 9 (by kernel_rfl)) rfl zβ)) (zc.kn.ev rfl) ⟨_, rfl, Below.refl _ _, optDef zβ rfl⟩
  refine ⟨⟨true, .none rfl, fun h w => optUndef h, fun zβ za zw zc => ?_⟩, ?_⟩
  ·exact wp_and rfl ((evt za 6).trans (optVal (zc.dep 3 6 (by kernel_rfl)) rfl rfl)) (fun hp => ((evt za 10).trans (optVal (zc.dep 7 10 (by kernel_rfl)) rfl (bMk zβ hp)))) ⟨_, rfl, Below.refl _ _, optDef zβ rfl⟩
  refine ⟨⟨true, .none rfl, fun h w => optUndef h, fun zβ za zw zc => ?_⟩, ?_⟩
  ·exact wp_assign rfl ((evt za 11).trans (optVal (zc.dep 8 11 (by kernel_rfl)) rfl rfl)) ⟨_, rfl, Below.refl _ _, optDef zβ rfl⟩
  exact trivial
 ·intro za w8 zh hb9 zu
  have zh := zh.cons (d := 2) (v := .bool ((((t.f : Int) == (0 : Int)) && ((((t.args.length : Nat) : Int) : Int) == (0 : Int))))) (optVal (zu 9 2 (by kernel_rfl)) rfl rfl)
  clear zu
  refine WE.go zh ?_
  refine WE.next (WC.ret (WE.ret1 rfl rfl ?_))
  have hb10 : Below w.heap.size w w8 := (bstep hb5 hb9)
  refine ⟨_, rfl, congrArg Value.bool ?_, hb10⟩
  rw [Bool.eq_iff_iff, T.isTrue_iff]; simp
set_option maxRecDepth 100000 in
theorem csize_any (x : Li) (w : World) (pb po : Nat) (a1 a2 : Option Addr) (c1 c2 : Nat) (hz1 : x.l.size ≤ 4294967296) (hz2 : x.r.size ≤ 4294967296) (h1 : w.cell? ⟨pb, po + 1, none⟩ = some (.int .i64 x.l.f)) (h2 : w.cell? ⟨pb, po + 2, none⟩ = some (.slice a1 x.l.args.length c1)) (h3 : w.cell? ⟨pb, po + 3, none⟩ = some (.int .i64 x.r.f)) (h4 : w.cell? ⟨pb, po + 4, none⟩ = some (.slice a2 x.r.args.length c2))
  (hL : IsT w x.l (.agg #[.int .i64 x.l.f, .slice a1 x.l.args.length c1])) (hR : IsT w x.r (.agg #[.int .i64 x.r.f, .slice a2 x.r.args.length c2])) : Calls Try.prog 32 #[.pointer (some ⟨pb, po, none⟩)] w (Ret fun v' w' => v' = .int .i64 (x.sz : Int) ∧ Below w.heap.size w w') := by
 refine Calls.walk (l := [.pointer (some ⟨pb, po, none⟩)]) Try.func32 rfl (by kernel_rfl) ?_
 refine WC.sub (K' := [(0, .pointer (some ⟨pb, po, none⟩))]) ⟨rfl, trivial⟩ ?_
 refine WC.seq (WC.region (WL.asg rfl rfl rfl rfl rfl (WL.nil (WE.next (WC.seq (WC.region (WL.mv rfl rfl rfl rfl rfl ?_)))))))
 refine WL.val _ rfl rfl rfl (fun za zC zh zk => nilCheck_ rfl (zh.ev rfl) zk) ?_
 refine WL.val _ rfl rfl rfl (fun za zC zh zk => fld_36_1 rfl (zh.ev rfl) zk) ?_
 refine WL.val _ rfl rfl rfl (fun za zC zh zk => ld_34 rfl (zh.ev rfl) h1 h2 zk) ?_
 refine WL.call rfl rfl rfl (fun za zh zC => wp_call (by kernel_rfl) rfl (hv1 (zh.ev rfl))) (tsize_any x.l _ _ hz1 (IsT.below (Below.refl _ _) hL)) ?_
 rintro _ w2 ⟨rfl, hq1⟩
 refine WL.asg rfl rfl rfl rfl rfl (WL.nil (WE.next (WC.seq (WC.seq (WC.region (WL.mv rfl rfl rfl rfl rfl ?_))))))
 refine WL.val _ rfl rfl rfl (fun za zC zh zk => nilCheck_ rfl (zh.ev rfl) zk) ?_
 refine WL.val _ rfl rfl rfl (fun za zC zh zk => fld_36_2 rfl (zh.ev rfl) zk) ?_
 have hc3 := bkeeps hq1 _ _ h3
 have hc4 := bkeeps hq1 _ _ h4
 refine WL.val _ rfl rfl rfl (fun za zC zh zk => ld_34 rfl (zh.ev rfl) hc3 hc4 zk) ?_
 refine WL.call rfl rfl rfl (fun za zh zC => wp_call (by kernel_rfl) rfl (hv1 (zh.ev rfl))) (ptrue_any x.r _ _ (IsT.below hq1 hR)) ?_
 rintro _ w6 ⟨rfl, hq5⟩
 refine WL.val (.bool ((!x.r.isTrue))) rfl rfl rfl (fun za zC zh zk => wp_not rfl (zh.ev rfl) zk) ?_
 refine WL.nil (WE.next ?_)
 refine WC.cond rfl (fun h7 => ?_) (fun h7 => ?_)
 ·have h7 : ¬ (x.r.isTrue = true) := by simpa using h7
  refine WC.region (WL.mv rfl rfl rfl rfl rfl (WL.mv rfl rfl rfl rfl rfl ?_))
  refine WL.val _ rfl rfl rfl (fun za zC zh zk => nilCheck_ rfl (zh.ev rfl) zk) ?_
  refine WL.val _ rfl rfl rfl (fun za zC zh zk => fld_36_2 rfl (zh.ev rfl) zk) ?_
  have hc8 := bkeeps hq5 _ _ hc3
  have hc9 := bkeeps hq5 _ _ hc4
  refine WL.val _ rfl rfl rfl (fun za zC zh zk => ld_34 rfl (zh.ev rfl) hc8 hc9 zk) ?_
  have hb10 : Below w.heap.size w w6 := (bstep hq1 hq5)
  refine WL.call rfl rfl rfl (fun za zh zC => wp_call (by kernel_rfl) rfl (hv1 (zh.ev rfl))) (tsize_any x.r _ _ hz2 (IsT.below hb10 hR)) ?_
  rintro _ w12 ⟨rfl, hq11⟩
  refine WL.val (.int .i64 ((((x.l.size + x.r.size) : Nat) : Int))) rfl rfl rfl (fun za zC zh zk => addb_3 rfl (zh.ev rfl) (zh.ev rfl) (wrap_eq (by omega) (by omega) (by omega)) zk) ?_
  refine WL.asg rfl rfl rfl rfl rfl (WL.nil (WE.next (WC.seq (WC.region (WL.mv rfl rfl rfl rfl rfl (WL.asg rfl rfl rfl rfl rfl (WL.nil (WE.next (WC.ret (WE.ret1 rfl rfl ?_))))))))))
  have hb13 : Below w.heap.size w w12 := (bstep hb10 hq11)
  exact ⟨_, rfl, by unfold Li.sz; rw [if_neg h7], hb13⟩
 ·have h7 : ¬ (¬ (x.r.isTrue = true)) := by simpa using h7
  refine WC.skip (WE.next (WC.seq (WC.region (WL.mv rfl rfl rfl rfl rfl (WL.asg rfl rfl rfl rfl rfl (WL.nil (WE.next (WC.ret (WE.ret1 rfl rfl ?_)))))))))
  have hb14 : Below w.heap.size w w6 := (bstep hq1 hq5)
  exact ⟨_, rfl, by unfold Li.sz; rw [if_pos (by simpa using h7)], hb14⟩
set_option maxRecDepth 100000 in
theorem rlit_any (x : Li) (w : World) (a1 a2 : Option Addr) (c1 c2 : Nat) (hz1 : x.l.size ≤ 4294967296) (hz2 : x.r.size ≤ 4294967296)
  (hL : IsT w x.l (.agg #[.int .i64 x.l.f, .slice a1 x.l.args.length c1])) (hR : IsT w x.r (.agg #[.int .i64 x.r.f, .slice a2 x.r.args.length c2])) : Calls Try.prog 31 #[.agg #[.bool x.neg, .int .i64 x.l.f, .slice a1 x.l.args.length c1, .int .i64 x.r.f, .slice a2 x.r.args.length c2]] w (Ret fun v' w' => v' = .int .i64 (x.sz : Int) ∧ Below w.heap.size w w') := by
 refine Calls.walk (l := [.agg #[.bool x.neg, .int .i64 x.l.f, .slice a1 x.l.args.length c1, .int .i64 x.r.f, .slice a2 x.r.args.length c2]]) Try.func31 rfl (by kernel_rfl) ?_
 refine WC.sub (K' := [(0, .agg #[.bool x.neg, .int .i64 x.l.f, .slice a1 x.l.args.length c1, .int .i64 x.r.f, .slice a2 x.r.args.length c2])]) ⟨rfl, trivial⟩ ?_
 refine WC.seq (WC.region ?_)
 refine WL.step (post := NewBlk w 36 #[.bool x.neg, .int .i64 x.l.f, .slice a1 x.l.args.length c1, .int .i64 x.r.f, .slice a2 x.r.args.length c2]) rfl rfl rfl (fun za zC zh zk => box_36 rfl (zh.ev rfl) (zk _ _ (newBlk _ _ _))) ?_
 rintro _ w1 ⟨g2, rfl, hg3, hB4, hb5, hz6⟩
 have hl7 : w.heap.size ≤ g2 := by omega
 refine WL.asg rfl rfl rfl rfl rfl (WL.nil (WE.next (WC.seq (WC.region ?_))))
 refine WL.val _ rfl rfl rfl (fun za zC zh zk => fld_36_1 rfl (zh.ev rfl) zk) ?_
 refine WL.val _ rfl rfl rfl (fun za zC zh zk => ld_34 rfl (zh.ev rfl) ((hB4.cell 1).trans rfl) ((hB4.cell 2).trans rfl) zk) ?_
 refine WL.call rfl rfl rfl (fun za zh zC => wp_call (by kernel_rfl) rfl (hv1 (zh.ev rfl))) (rsize_ok x.l _ _ hz1 (IsT.below hb5 hL)) ?_
 rintro _ w9 ⟨rfl, hq8⟩
 refine WL.asg rfl rfl rfl rfl rfl (WL.nil (WE.next (WC.seq (WC.seq (WC.region ?_)))))
 refine WL.val _ rfl rfl rfl (fun za zC zh zk => fld_36_2 rfl (zh.ev rfl) zk) ?_
 have hB10 := hB4.below hq8
 refine WL.val _ rfl rfl rfl (fun za zC zh zk => ld_34 rfl (zh.ev rfl) ((hB10.cell 3).trans rfl) ((hB10.cell 4).trans rfl) zk) ?_
 have hb11 : Below w.heap.size w w9 := (bstep hb5 hq8)
 refine WL.call rfl rfl rfl (fun za zh zC => wp_call (by kernel_rfl) rfl (hv1 (zh.ev rfl))) (rtrue_any x.r _ _ (IsT.below hb11 hR)) ?_
 rintro _ w13 ⟨rfl, hq12⟩
 refine WL.val (.bool ((!x.r.isTrue))) rfl rfl rfl (fun za zC zh zk => wp_not rfl (zh.ev rfl) zk) ?_
 refine WL.nil (WE.next ?_)
 refine WC.cond rfl (fun h14 => ?_) (fun h14 => ?_)
 ·have h14 : ¬ (x.r.isTrue = true) := by simpa using h14
  refine WC.region (WL.mv rfl rfl rfl rfl rfl ?_)
  refine WL.val _ rfl rfl rfl (fun za zC zh zk => fld_36_2 rfl (zh.ev rfl) zk) ?_
  have hB15 := hB10.below hq12
  refine WL.val _ rfl rfl rfl (fun za zC zh zk => ld_34 rfl (zh.ev rfl) ((hB15.cell 3).trans rfl) ((hB15.cell 4).trans rfl) zk) ?_
  have hb16 : Below w.heap.size w w13 := (bstep hb11 hq12)
  refine WL.call rfl rfl rfl (fun za zh zC => wp_call (by kernel_rfl) rfl (hv1 (zh.ev rfl))) (rsize_ok x.r _ _ hz2 (IsT.below hb16 hR)) ?_
  rintro _ w18 ⟨rfl, hq17⟩
  refine WL.val (.int .i64 ((((x.l.size + x.r.size) : Nat) : Int))) rfl rfl rfl (fun za zC zh zk => addb_3 rfl (zh.ev rfl) (zh.ev rfl) (wrap_eq (by omega) (by omega) (by omega)) zk) ?_
  refine WL.asg rfl rfl rfl rfl rfl (WL.nil (WE.next (WC.seq (WC.region (WL.mv rfl rfl rfl rfl rfl (WL.asg rfl rfl rfl rfl rfl (WL.nil (WE.next (WC.ret (WE.ret1 rfl rfl ?_))))))))))
  have hb19 : Below w.heap.size w w18 := (bstep hb16 hq17)
  exact ⟨_, rfl, by unfold Li.sz; rw [if_neg h14], hb19⟩
 ·have h14 : ¬ (¬ (x.r.isTrue = true)) := by simpa using h14
  refine WC.skip (WE.next (WC.seq (WC.region (WL.mv rfl rfl rfl rfl rfl (WL.asg rfl rfl rfl rfl rfl (WL.nil (WE.next (WC.ret (WE.ret1 rfl rfl ?_)))))))))
  have hb20 : Below w.heap.size w w13 := (bstep hb11 hq12)
  exact ⟨_, rfl, by unfold Li.sz; rw [if_pos (by simpa using h14)], hb20⟩
theorem clSize_le {l : List Li} (h : ∀ x ∈ l, x.l.size ≤ 4294967296 ∧ x.r.size ≤ 4294967296) : ∀ k, clSize (l.take k) ≤ l.length * 8589934592 := by
 induction l with
 | nil => intro k; simp [clSize]
 | cons x r ih =>
  intro k
  cases k with
  | zero => simp [clSize]
  | succ k =>
   have h1 := ih (fun y hy => h y (by simp [hy])) k
   have h2 := Li.sz_le (h x (by simp)).1 (h x (by simp)).2
   rw [List.take_succ_cons, clSize, List.length_cons]; omega
set_option maxRecDepth 100000 in
theorem rsizec_any (l : List Li) (w : World) (a : Option Addr) (c : Nat) (hl : IsCl w l a c) (hlz : l.length ≤ 1048576) : Calls Try.prog 14 #[.slice a l.length c] w (Ret fun v' w' => v' = .int .i64 (clSize l : Int) ∧ Below w.heap.size w w') := by
 have hr := hl.rows
 have hle : ∀ k, clSize (l.take k) ≤ l.length * 8589934592 := fun k => clSize_le (fun x hx => ⟨hl.partsL x hx, hl.partsR x hx⟩) k
 have hpl : ∀ k, k < l.length → (lget l k).l.size ≤ 4294967296 := fun k h => hl.pl h
 have hpr : ∀ k, k < l.length → (lget l k).r.size ≤ 4294967296 := fun k h => hl.pr h
 refine Calls.walk (l := [.slice a l.length c]) Try.func14 rfl (by kernel_rfl) ?_
 refine WC.sub (K' := [(0, .slice a l.length c)]) ⟨rfl, trivial⟩ ?_
 refine WC.seq (WC.region (WL.asg rfl rfl rfl rfl rfl (WL.nil (WE.next (WC.seq (WC.region (WL.asg rfl rfl rfl rfl rfl (WL.nil (WE.next (WC.seq (WC.seq (WC.region (WL.asg rfl rfl rfl rfl rfl (WL.nil (WE.next (WC.block ?_))))))))))))))))
 refine WC.loop (X := Nat) (fun k => l.length - k) (fun k => [(0, .slice a l.length c), (2, .int .i64 0), (3, .int .i64 ((((clSize (l.take k)) : Nat) : Int))), (4, .int .i64 (((k : Nat) : Int)))]) (fun k w1 => k ≤ l.length ∧ Below w.heap.size w w1) 0 ⟨rfl, rfl, rfl, rfl, trivial⟩ ?_ ?_
 ·exact ⟨Nat.zero_le _, (Below.refl _ _)⟩
 ·rintro k w1 ⟨hk, hb2⟩
  refine WC.seq (WC.seq (WC.region (WL.mv rfl rfl rfl rfl rfl (WL.mv rfl rfl rfl rfl rfl ?_))))
  refine WL.val (.int .i64 (((l.length : Nat) : Int))) rfl rfl rfl (fun za zC zh zk => len_27 rfl (zh.ev rfl) zk) ?_
  refine WL.val (.bool ((decide ((((k : Nat) : Int) : Int) < (((l.length : Nat) : Int) : Int))))) rfl rfl rfl (fun za zC zh zk => lss_3 rfl (zh.ev rfl) (zh.ev rfl) zk) ?_
  refine WL.nil (WE.next ?_)
  refine WC.cond rfl (fun h3 => ?_) (fun h3 => ?_)
  ·have h3 : (((k : Nat) : Int) : Int) < (((l.length : Nat) : Int) : Int) := by simpa using h3
   refine WC.skip (WE.next (WC.seq (WC.block (WC.region (WL.mv rfl rfl rfl rfl rfl (WL.mv rfl rfl rfl rfl rfl (WL.mv rfl rfl rfl rfl rfl ?_)))))))
   obtain ⟨b4, o5, A6, C7, A8, C9, ha10, hc11⟩ := InRow.openL hr
   refine WL.val _ rfl rfl rfl (fun za zC zh zk => ix_27 (k := k) rfl (zh.ev rfl) (ha10 k (by first | omega | (simp; omega))) (zh.ev rfl) (by first | omega | (simp; omega)) zk) ?_
   refine WL.val _ rfl rfl rfl (fun za zC zh zk => ld_36 rfl (zh.ev rfl) (bkeeps hb2 _ _ (hc11 k (by first | omega | (simp; omega))).1) (bkeeps hb2 _ _ (hc11 k (by first | omega | (simp; omega))).2.1) (bkeeps hb2 _ _ (hc11 k (by first | omega | (simp; omega))).2.2.1) (bkeeps hb2 _ _ (hc11 k (by first | omega | (simp; omega))).2.2.2.1) (bkeeps hb2 _ _ (hc11 k (by first | omega | (simp; omega))).2.2.2.2.1) zk) ?_
   refine WL.call rfl rfl rfl (fun za zh zC => wp_call (by kernel_rfl) rfl (hv1 (zh.ev rfl))) (rlit_any (lget l k) _ _ _ _ _ (hpl k (by omega)) (hpr k (by omega)) (IsT.below hb2 (InT.isT (hc11 k (by first | omega | (simp; omega))).2.2.2.2.2.1)) (IsT.below hb2 (InT.isT (hc11 k (by first | omega | (simp; omega))).2.2.2.2.2.2))) ?_
   rintro _ w13 ⟨rfl, hq12⟩
   refine WL.val (.int .i64 ((((clSize (l.take (k + 1))) : Nat) : Int))) rfl rfl rfl (fun za zC zh zk => addb_3 rfl (zh.ev rfl) (zh.ev rfl) (wrap_eq (by rw [clSize_take (by omega)]; omega) (by omega) (by have z := hle (k + 1); omega)) zk) ?_
   refine WL.asg rfl rfl rfl rfl rfl (WL.nil (WE.blockNormal (WE.next (WC.region (WL.mv rfl rfl rfl rfl rfl ?_)))))
   refine WL.val (.int .i64 ((((k + 1) : Nat) : Int))) rfl rfl rfl (fun za zC zh zk => addb_3 rfl (zh.ev rfl) (zh.ev rfl) (wrap_eq (by omega) (by omega) (by omega)) zk) ?_
   refine WL.asg rfl rfl rfl rfl rfl (WL.nil ?_)
   refine WE.round (k + 1) ⟨rfl, rfl, rfl, rfl, trivial⟩ ?_ ?_
   ·have hb14 : Below w.heap.size w w13 := (bstep hb2 hq12)
    exact ⟨by omega, hb14⟩
   ·omega
  ·have h3 : ¬ ((((k : Nat) : Int) : Int) < (((l.length : Nat) : Int) : Int)) := by simpa using h3
   refine WC.exit (WE.thenExit (WE.thenExit (WE.blockIs rfl (WE.next (WC.seq (WC.region (WL.mv rfl rfl rfl rfl rfl (WL.asg rfl rfl rfl rfl rfl (WL.nil (WE.next (WC.ret (WE.ret1 rfl rfl ?_))))))))))))
   exact ⟨_, rfl, by rw [List.take_of_length_le (show l.length ≤ k by omega)], hb2⟩
end Go.Proofs.Ytnokgjajcnhkkaa

/- Sizes of literals, the negative ones. The program. -/
namespace Go.Proofs.Ytnokgjajcnhkkaa
open Go.RowKit Go
set_option linter.unusedVariables false
set_option linter.unusedSimpArgs false
set_option maxRecDepth 100000 in
theorem neg_any (x : Li) (w : World) (v : Value) (hv : IsLi w x v) : Calls Try.prog 17 #[v] w (Ret fun v' w' => v' = .bool x.neg ∧ Below w.heap.size w w') := by
 obtain ⟨a1, a2, c1, c2, rfl, h1, h2⟩ := hv.form
 refine Calls.walk (l := [.agg #[.bool x.neg, .int .i64 x.l.f, .slice a1 x.l.args.length c1, .int .i64 x.r.f, .slice a2 x.r.args.length c2]]) Try.func17 rfl (by kernel_rfl) ?_
 refine WC.sub (K' := [(0, .agg #[.bool x.neg, .int .i64 x.l.f, .slice a1 x.l.args.length c1, .int .i64 x.r.f, .slice a2 x.r.args.length c2])]) ⟨rfl, trivial⟩ ?_
 refine WC.seq (WC.region ?_)
 refine WL.step (post := NewBlk w 36 #[.bool x.neg, .int .i64 x.l.f, .slice a1 x.l.args.length c1, .int .i64 x.r.f, .slice a2 x.r.args.length c2]) rfl rfl rfl (fun za zC zh zk => box_36 rfl (zh.ev rfl) (zk _ _ (newBlk _ _ _))) ?_
 rintro _ w1 ⟨g2, rfl, hg3, hB4, hb5, hz6⟩
 have hl7 : w.heap.size ≤ g2 := by omega
 refine WL.asg rfl rfl rfl rfl rfl (WL.nil (WE.next (WC.seq (WC.region ?_))))
 refine WL.val _ rfl rfl rfl (fun za zC zh zk => fld_36_0 rfl (zh.ev rfl) zk) ?_
 refine WL.val _ rfl rfl rfl (fun za zC zh zk => ld_4 rfl (zh.ev rfl) ((hB4.cell 0).trans rfl) zk) ?_
 refine WL.asg rfl rfl rfl rfl rfl (WL.nil (WE.next (WC.ret (WE.ret1 rfl rfl ?_))))
 exact ⟨_, rfl, rfl, hb5⟩
end Go.Proofs.Ytnokgjajcnhkkaa

/- Rows of things of several cells, how they lie in memory. -/
namespace Go.Proofs.Ytnokgjajcnhkkaa
open Go.RowKit
/-- The row at 'a' holds the things 'l', 'k' cells each. -/
def IsRow {α : Type} (w : World) (k : Nat) (R : World → α → List Value → Prop) (l : List α) (a : Option Addr) : Prop :=
  ∀ i (hi : i < l.length), ∃ (b o : Nat) (cs : List Value), a = some ⟨b, o, none⟩ ∧ cs.length = k ∧ (∀ j, j < k → w.cell? ⟨b, o + i * k + j, none⟩ = cs[j]?) ∧ R w l[i] cs
theorem IsRow.keep {α : Type} {w w' : World} {k : Nat} {R : World → α → List Value → Prop} {l : List α} {a : Option Addr} (h : IsRow w k R l a) (hb : Below w.heap.size w w') (hR : ∀ x cs, R w x cs → R w' x cs) : IsRow w' k R l a := by
  intro i hi
  obtain ⟨b, o, cs, h1, h2, h3, h4⟩ := h i hi
  refine ⟨b, o, cs, h1, h2, fun j hj => ?_, hR _ _ h4⟩
  have := h3 j hj
  rw [List.getElem?_eq_getElem (by omega)] at this ⊢
  exact bkeeps hb _ _ this
section
variable {H : Type} {enc : TypeId × Value → H} {P : Program} {w : World} {base : Nat} {spare : Nat → Bool} {held : Bool}
/-- A slice opened: its things, one by one. -/
theorem open_row {α : Type} [Inhabited α] {t e : TypeId} {k : Nat} {fuel : Nat} {cs : List Value} {x : DataW H × List MemPlace} (ht : P.underlying t = some (.slice e)) (hC : P.cellsOf e = k) (hk : 0 < k)
    (h : DataW.trod enc P w base spare held fuel t cs = some x) {R : World → α → List Value → Prop} {S : α → DataW H → Prop}
    (hel : ∀ n cs x, DataW.trod enc P w base spare held n e cs = some x → ∃ a : α, R w a cs ∧ S a x.1) :
    ∃ (l : List α) (a : Option Addr) (cap : Nat) (ds sp : List (DataW H)), cs = [.slice a l.length cap] ∧ l.length ≤ cap ∧ cap ≤ maxLen ∧ IsRow w k R l a ∧ ds.length = l.length ∧ (x.1 = .nil ∧ l = [] ∧ ds = [] ∨ x.1 = .slice ds sp) ∧
      ∀ i (hi : i < l.length) (hd : i < ds.length), S l[i] ds[i] := by
  rcases DataW.trod_slice ht h with ⟨rfl, rfl⟩ | ⟨a, len, cap, elems, rest, m, rfl, rfl, rfl, hb, hlc, hcm, hlen, hat, _, _⟩
  · exact ⟨[], none, 0, [], [], rfl, Nat.le_refl _, Nat.zero_le _, fun i hi => absurd hi (by simp), rfl, .inl ⟨rfl, rfl, rfl⟩, fun i hi => absurd hi (by simp)⟩
  · have hspot : 0 < len → ∃ b o, a = ⟨b, o, none⟩ := by
      intro h0
      have hk := hat 0 h0
      rw [hC, List.getElem?_eq_getElem (by omega)] at hk
      obtain ⟨cs', h1, _⟩ := Option.bind_eq_some_iff.1 hk
      obtain ⟨_, hl', hcell⟩ := World.cells?_some h1
      have c0 := hcell 0 (by omega)
      rw [List.getElem?_eq_getElem (by omega)] at c0
      have := World.cell?_spot c0
      obtain ⟨b, o, spot⟩ := a
      exact ⟨b, o, by simpa [Addr.add] using this⟩
    have key : ∀ i, i < len → ∃ t : α, (∃ (b o : Nat) (cs : List Value), some a = some ⟨b, o, none⟩ ∧ cs.length = k ∧ (∀ j, j < k → w.cell? ⟨b, o + i * k + j, none⟩ = cs[j]?) ∧ R w t cs) ∧
        ∀ (hd : i < elems.length), S t elems[i].1 := by
      intro i hi
      have hk := hat i hi
      rw [hC, List.getElem?_eq_getElem (by omega)] at hk
      obtain ⟨cs', h1, h2⟩ := Option.bind_eq_some_iff.1 hk
      obtain ⟨t, hR, hS⟩ := hel _ _ _ h2
      obtain ⟨_, hl', hcell⟩ := World.cells?_some h1
      obtain ⟨b, o, rfl⟩ := hspot (by omega)
      refine ⟨t, ⟨b, o, cs', rfl, hl', fun j hj => ?_, hR⟩, fun _ => hS⟩
      have := hcell j hj
      rwa [add_plain2, add_plain2] at this
    obtain ⟨F, hF⟩ := Go.Deep.choose_lt key
    have hLL : ((List.range len).map F).length = len := by simp
    refine ⟨(List.range len).map F, some a, cap, elems.map (·.1), rest.map (·.1), by rw [hLL], by rw [hLL]; exact hlc, hcm, fun i hi => ?_, by rw [hLL]; simpa using hlen, .inr rfl, fun i hi hd => ?_⟩
    · have := (hF i (by simpa using hi)).1
      simpa using this
    · have := (hF i (by simpa using hi)).2 (by simpa using hd)
      simpa using this
end
end Go.Proofs.Ytnokgjajcnhkkaa

/- Terms compared, as a plain function. -/
namespace Go.Proofs.Ytnokgjajcnhkkaa
namespace T
mutual
def same : T → T → Bool
  | .mk f l, .mk g k => (f == g) && sameL l k
def sameL : List T → List T → Bool
  | [], [] => true
  | a :: r, b :: q => same a b && sameL r q
  | [], _ :: _ => false
  | _ :: _, [] => false
end
mutual
theorem same_iff : ∀ (s t : T), same s t = true ↔ s = t
  | .mk f l, .mk g k => by
    rw [same, Bool.and_eq_true, sameL_iff l k, beq_iff_eq]
    simp
theorem sameL_iff : ∀ (l k : List T), sameL l k = true ↔ l = k
  | [], [] => by simp [sameL]
  | a :: r, b :: q => by rw [sameL, Bool.and_eq_true, same_iff a b, sameL_iff r q]; simp
  | [], _ :: _ => by simp [sameL]
  | _ :: _, [] => by simp [sameL]
end
theorem same_refl (s : T) : same s s = true := (same_iff s s).2 rfl
theorem same_symm (s t : T) : same s t = same t s := by
  rw [Bool.eq_iff_iff, same_iff, same_iff]; exact ⟨Eq.symm, Eq.symm⟩
mutual
def cmp : T → T → Int
  | .mk f l, .mk g k => if f ≠ g then (if f < 0 ∧ g < 0 then (if g < f then -1 else 1) else if f < g then -1 else 1) else cmpL l k
def cmpL : List T → List T → Int
  | [], [] => 0
  | a :: r, b :: q => if cmp a b = 0 then cmpL r q else cmp a b
  | [], _ :: _ => -1
  | _ :: _, [] => 1
end
end T
end Go.Proofs.Ytnokgjajcnhkkaa

/- The order of Knuth and Bendix, as plain functions on terms: the program's way and the document's way come to the same. -/
namespace Go.Proofs.Ytnokgjajcnhkkaa
/-- An order of terms, as it is handed in. -/
structure Od where
  lpo : Bool
  prec : List Int
  weights : List Int
  var : Int
namespace T
-- How often a top stands in a term.
mutual
def often (v : Int) : T → Nat
  | .mk f l => (if f = v then 1 else 0) + oftenL v l
def oftenL (v : Int) : List T → Nat
  | [] => 0
  | a :: r => often v a + oftenL v r
end
end T
namespace Od
def most : Int := 2147483647
/-- A weight as it counts. -/
def clamp (w : Int) : Int := max 0 (min w most)
def wsym (o : Od) (f : Int) : Int := if f < 0 then o.var else o.weights.getD f.toNat 0
-- What all symbols weigh together.
mutual
def raw (o : Od) : T → Int
  | .mk f l => clamp (o.wsym f) + rawL o l
def rawL (o : Od) : List T → Int
  | [] => 0
  | a :: r => raw o a + rawL o r
end
mutual
theorem raw_nonneg (o : Od) : ∀ t, 0 ≤ raw o t
  | .mk f l => by have := rawL_nonneg o l; rw [raw]; unfold clamp; omega
theorem rawL_nonneg (o : Od) : ∀ l, 0 ≤ rawL o l
  | [] => by simp [rawL]
  | a :: r => by have := raw_nonneg o a; have := rawL_nonneg o r; rw [rawL]; omega
end
def weight (o : Od) (t : T) : Int := min (o.raw t) most
mutual
def knows (o : Od) : T → Bool
  | .mk f l => if f < 0 then l.isEmpty else decide (f < o.prec.length ∧ f < o.weights.length) && knowsL o l
def knowsL (o : Od) : List T → Bool
  | [] => true
  | a :: r => knows o a && knowsL o r
end
def rank (o : Od) (f : Int) : Int := o.prec.getD f.toNat 0
/-- Symbols all the same around a variable. -/
def around (f v : Int) : T → Bool
  | .mk g [a] => g == f && (a.f == v || around f v a)
  | .mk _ _ => false
-- No variable stands in t more often than in s, of those that stand in u.
mutual
def covers (s t : T) : T → Bool
  | .mk f l => if f < 0 then decide (t.often f ≤ s.often f) else coversL s t l
def coversL (s t : T) : List T → Bool
  | [] => true
  | a :: r => covers s t a && coversL s t r
end
mutual
def above (o : Od) : T → T → Bool
  | .mk f l, t =>
    covers (.mk f l) t t && (decide (o.weight t < o.weight (.mk f l)) || (decide (o.weight (.mk f l) = o.weight t) &&
      (if f < 0 then false else if t.f < 0 then around f t.f (.mk f l) else if f ≠ t.f then decide (o.rank t.f < o.rank f) else aboveL o l t.args)))
def aboveL (o : Od) : List T → List T → Bool
  | [], _ => false
  | _ :: _, [] => true
  | a :: r, b :: q => if T.same a b then aboveL o r q else above o a b
end
/-- A relation: 0 none, 1 less, 2 equal, 3 greater. -/
def cmp (o : Od) (s t : T) : Int :=
  if T.same s t then 2 else if above o s t then 3 else if above o t s then 1 else 0
def Cmp (o : Od) (s t : T) : Int := if o.knows s && o.knows t then o.cmp s t else 0
theorem above_eq (o : Od) (s t : T) : above o s t = (covers s t t && (decide (o.weight t < o.weight s) || (decide (o.weight s = o.weight t) &&
      (if s.f < 0 then false else if t.f < 0 then around s.f t.f s else if s.f ≠ t.f then decide (o.rank t.f < o.rank s.f) else aboveL o s.args t.args)))) := by
  cases s; rw [above]; rfl
theorem asymm_step (o : Od) (s t : T) (hL : ∀ k, aboveL o s.args k = true → aboveL o k s.args = false) (h : above o s t = true) : above o t s = false := by
  rw [above_eq] at h ⊢
  simp only [Bool.and_eq_true, Bool.or_eq_true, decide_eq_true_eq] at h
  obtain ⟨_, h⟩ := h
  rw [Bool.and_eq_false_iff]
  right
  rcases h with h | ⟨h1, h2⟩
  · simp; omega
  · rw [Bool.or_eq_false_iff, Bool.and_eq_false_iff]
    refine ⟨by simp; omega, Or.inr ?_⟩
    by_cases hf : s.f < 0
    · simp [hf] at h2
    · by_cases ht : t.f < 0
      · simp [ht]
      · by_cases hft : s.f = t.f
        · simp only [ht, hft, if_false, ne_eq, not_true_eq_false] at h2 ⊢
          exact hL _ h2
        · have hft' : ¬ t.f = s.f := fun h => hft h.symm
          simp only [hf, ht, hft, hft', if_false, ne_eq, not_false_eq_true, if_true, decide_eq_true_eq, decide_eq_false_iff_not] at h2 ⊢
          omega
mutual
theorem above_asymm (o : Od) : ∀ (s t : T), above o s t = true → above o t s = false
  | .mk f l, t => asymm_step o (.mk f l) t (fun k => aboveL_asymm o l k)
theorem aboveL_asymm (o : Od) : ∀ (l k : List T), aboveL o l k = true → aboveL o k l = false
  | [], _, h => by simp [aboveL] at h
  | _ :: _, [], _ => by simp [aboveL]
  | a :: r, b :: q, h => by
    rw [aboveL] at h ⊢
    by_cases hs : T.same a b = true
    · rw [if_pos hs] at h
      rw [if_pos (by rw [T.same_symm]; exact hs)]
      exact aboveL_asymm o r q h
    · rw [if_neg hs] at h
      rw [if_neg (by rw [T.same_symm]; exact hs)]
      exact above_asymm o a b h
end
/-! ### The program's way -/
def turned (r : Int) : Int := if r = 1 then 3 else if r = 3 then 1 else r
/-- The first arguments that differ decide. -/
def reasonL (o : Od) : List T → List T → Int
  | [], [] => 1
  | _ :: _, [] => 3
  | [], _ :: _ => 1
  | a :: r, b :: q => if T.same a b then reasonL o r q else o.cmp a b
def reason (o : Od) (s t : T) : Int :=
  if o.weight t < o.weight s then 3 else if o.weight s < o.weight t then 1
  else if s.f < 0 ∧ t.f < 0 then 0
  else if t.f < 0 then (if around s.f t.f s then 3 else 0)
  else if s.f < 0 then (if around t.f s.f t then 1 else 0)
  else if s.f ≠ t.f then (if o.rank t.f < o.rank s.f then 3 else if o.rank s.f < o.rank t.f then 1 else 0)
  else reasonL o s.args t.args
theorem cmp_range (o : Od) (s t : T) : o.cmp s t = 0 ∨ o.cmp s t = 1 ∨ o.cmp s t = 2 ∨ o.cmp s t = 3 := by
  unfold cmp; (repeat' split) <;> simp
theorem reasonL_three (o : Od) : ∀ (l k : List T), T.sameL l k = false → (reasonL o l k = 3 ↔ aboveL o l k = true)
  | [], [], h => by simp [T.sameL] at h
  | _ :: _, [], _ => by simp [reasonL, aboveL]
  | [], _ :: _, _ => by simp [reasonL, aboveL]
  | a :: r, b :: q, h => by
    rw [reasonL, aboveL]
    by_cases hs : T.same a b = true
    · rw [if_pos hs, if_pos hs]
      refine reasonL_three o r q ?_
      simpa [T.sameL, hs] using h
    · rw [if_neg hs, if_neg hs]
      unfold cmp
      rw [if_neg hs]
      by_cases h1 : above o a b = true
      · simp [h1]
      · simp [h1]; split <;> simp
theorem reasonL_one (o : Od) : ∀ (l k : List T), T.sameL l k = false → (reasonL o l k = 1 ↔ aboveL o k l = true)
  | [], [], h => by simp [T.sameL] at h
  | _ :: _, [], _ => by simp [reasonL, aboveL]
  | [], _ :: _, _ => by simp [reasonL, aboveL]
  | a :: r, b :: q, h => by
    rw [reasonL, aboveL, T.same_symm b a]
    by_cases hs : T.same a b = true
    · rw [if_pos hs, if_pos hs]
      refine reasonL_one o r q ?_
      simpa [T.sameL, hs] using h
    · rw [if_neg hs, if_neg hs]
      unfold cmp
      rw [if_neg hs]
      by_cases h1 : above o a b = true
      · simp [h1, above_asymm o a b h1]
      · simp [h1]
theorem cmp_eq (o : Od) (s t : T) : o.cmp s t = if T.same s t then 2 else
    if reason o s t = 3 ∧ covers s t t = true then 3 else if reason o s t = 1 ∧ covers t s s = true then 1 else 0 := by
  unfold cmp
  by_cases hs : T.same s t = true
  · simp [hs]
  · rw [if_neg hs, if_neg hs]
    have hs' : T.same s t = false := by simpa using hs
    have hL : s.f = t.f → T.sameL s.args t.args = false := by
      intro h
      rw [← T.eta s, ← T.eta t, T.same, h] at hs'
      simpa using hs'
    have h3 : above o s t = true ↔ reason o s t = 3 ∧ covers s t t = true := by
      rw [above_eq, and_comm (a := reason o s t = 3), Bool.and_eq_true]
      refine and_congr_right (fun _ => ?_)
      unfold reason
      by_cases a : o.weight t < o.weight s
      · simp [a]
      · by_cases b : o.weight s < o.weight t
        · simp [a, b]; omega
        · have hw : o.weight s = o.weight t := by omega
          by_cases hf : s.f < 0 <;> by_cases ht : t.f < 0
          · simp [hw, hf, ht]
          · simp [hw, hf, ht]; split <;> simp
          · simp [hw, hf, ht]
          · by_cases hft : s.f = t.f
            · have := reasonL_three o s.args t.args (hL hft)
              simp [hw, ht, hft, this]
            · simp [hw, hf, ht, hft]
              by_cases c : o.rank t.f < o.rank s.f
              · simp [c]; omega
              · simp [c]; split <;> simp <;> omega
    have h1 : above o t s = true ↔ reason o s t = 1 ∧ covers t s s = true := by
      rw [above_eq, and_comm (a := reason o s t = 1), Bool.and_eq_true]
      refine and_congr_right (fun _ => ?_)
      unfold reason
      by_cases a : o.weight t < o.weight s
      · simp [a]; omega
      · by_cases b : o.weight s < o.weight t
        · simp [a, b]
        · have hw : o.weight s = o.weight t := by omega
          by_cases hf : s.f < 0 <;> by_cases ht : t.f < 0
          · simp [hw, hf, ht]
          · simp [hw, hf, ht]
          · simp [hw, hf, ht]; split <;> simp
          · by_cases hft : s.f = t.f
            · have := reasonL_one o s.args t.args (hL hft)
              simp [hw, ht, hft, this]
            · have hft' : ¬ t.f = s.f := fun h => hft h.symm
              simp [hw, hf, ht, hft, hft']
              by_cases c : o.rank t.f < o.rank s.f
              · simp [c]; omega
              · simp [c]
    simp only [h3, h1]
end Od
end Go.Proofs.Ytnokgjajcnhkkaa

/- Rows of integers, orders of terms, how they lie in memory, and that what reads as one is one. -/
namespace Go.Proofs.Ytnokgjajcnhkkaa
open Go.RowKit
def IsInt (_ : World) (n : Int) (cs : List Value) : Prop := cs = [.int .i64 n] ∧ I64 n
def IsInts (w : World) (l : List Int) (a : Option Addr) : Prop := IsRow w 1 IsInt l a
theorem IsInts.below {w w' : World} (hb : Below w.heap.size w w') {l : List Int} {a : Option Addr} (h : IsInts w l a) : IsInts w' l a := IsRow.keep h hb (fun _ _ h => h)
theorem IsInts.at_ {w w' : World} {l : List Int} {a : Option Addr} (h : IsInts w l a) (hb : Below w.heap.size w w') (k : Nat) (hk : k < l.length) :
    ∃ (b o : Nat), a = some ⟨b, o, none⟩ ∧ w'.cell? ⟨b, o + k, none⟩ = some (.int .i64 l[k]) ∧ I64 l[k] := by
  obtain ⟨b, o, cs, h1, _, h3, rfl, h4⟩ := h k hk
  have e0 := h3 0 (by omega)
  simp only [List.getElem?_cons_zero, Nat.add_zero, Nat.mul_one] at e0
  exact ⟨b, o, h1, bkeeps hb _ _ e0, h4⟩
/-- The value is the order. -/
def IsOd (w : World) (x : Od) (v : Value) : Prop := ∃ (a1 a2 : Option Addr) (c1 c2 : Nat), v = .agg #[.bool x.lpo, .slice a1 x.prec.length c1, .slice a2 x.weights.length c2, .int .i64 x.var] ∧
  x.prec.length ≤ c1 ∧ c1 ≤ maxLen ∧ x.weights.length ≤ c2 ∧ c2 ≤ maxLen ∧ IsInts w x.prec a1 ∧ IsInts w x.weights a2 ∧ I64 x.var
theorem IsOd.below {w w' : World} (hb : Below w.heap.size w w') {x : Od} {v : Value} (h : IsOd w x v) : IsOd w' x v := by
  obtain ⟨a1, a2, c1, c2, h0, h1, h2, h3, h4, h5, h6, h7⟩ := h
  exact ⟨a1, a2, c1, c2, h0, h1, h2, h3, h4, h5.below hb, h6.below hb, h7⟩
section
variable {H : Type} {enc : TypeId × Value → H} {w : World} {base : Nat} {spare : Nat → Bool} {held : Bool}
set_option maxRecDepth 10000 in
theorem open_Ints (fuel : Nat) (cs : List Value) (x : DataW H × List MemPlace) (h : DataW.trod enc Try.prog w base spare held fuel 22 cs = some x) :
    ∃ (l : List Int) (a : Option Addr) (cap : Nat), cs = [.slice a l.length cap] ∧ l.length ≤ cap ∧ cap ≤ maxLen ∧ IsInts w l a := by
  obtain ⟨l, a, cap, ds, sp, rfl, h1, h2, h3, _⟩ := open_row Try.underlying22 (k := 1) (by kernel_rfl) (by omega) h (R := IsInt) (S := fun _ _ => True) (fun n cs x hx => by
    obtain ⟨m, rfl, rfl, wf⟩ := DataW.trod_int Try.underlying3 hx
    exact ⟨m, ⟨rfl, i64_wf wf⟩, trivial⟩)
  exact ⟨l, a, cap, rfl, h1, h2, h3⟩
set_option maxRecDepth 10000 in
theorem open_Od (fuel : Nat) (cs : List Value) (x : DataW H × List MemPlace) (h : DataW.trod enc Try.prog w base spare held fuel 24 cs = some x) :
    ∃ (y : Od) (v0 v1 v2 v3 : Value), cs = [v0, v1, v2, v3] ∧ IsOd w y (.agg #[v0, v1, v2, v3]) := by
  have hC : Try.prog.cellsOf 24 = 4 := by kernel_rfl
  have hC4 : Try.prog.cellsOf 4 = 1 := by kernel_rfl
  have hC3 : Try.prog.cellsOf 3 = 1 := by kernel_rfl
  have hC27 : Try.prog.cellsOf 22 = 1 := by kernel_rfl
  obtain ⟨xs, n, rfl, rfl, hl, hlen, hf⟩ := DataW.trod_struct Try.underlying24 h
  rw [hC] at hl
  match xs, hlen, cs, hl with
  | [y0, y1, y2, y3], _, [c0, c1, c2, c3], _ =>
    have g0 : DataW.trod enc Try.prog w base spare held n 4 [c0] = some y0 := by simpa [hC4] using hf 0 _ rfl
    have g1 : DataW.trod enc Try.prog w base spare held n 22 [c1] = some y1 := by simpa [hC27] using hf 1 _ rfl
    have g2 : DataW.trod enc Try.prog w base spare held n 22 [c2] = some y2 := by simpa [hC27] using hf 2 _ rfl
    have g3 : DataW.trod enc Try.prog w base spare held n 3 [c3] = some y3 := by simpa [hC3] using hf 3 _ rfl
    obtain ⟨b, e0, rfl⟩ := DataW.trod_bool Try.underlying4 g0
    obtain ⟨l1, a1, k1, e1, p1, q1, r1⟩ := open_Ints _ _ _ g1
    obtain ⟨l2, a2, k2, e2, p2, q2, r2⟩ := open_Ints _ _ _ g2
    obtain ⟨m, e3, rfl, wf⟩ := DataW.trod_int Try.underlying3 g3
    simp only [List.cons.injEq, and_true] at e0 e1 e2 e3
    subst e0 e1 e2 e3
    exact ⟨⟨b, l1, l2, m⟩, _, _, _, _, rfl, a1, a2, k1, k2, rfl, p1, q1, p2, q2, r1, r2, i64_wf wf⟩
end
end Go.Proofs.Ytnokgjajcnhkkaa

/- Rows of terms and of integers, opened whole. -/
namespace Go.Proofs.Ytnokgjajcnhkkaa
open Go.RowKit Go
def iget (l : List Int) (k : Nat) : Int := l.getD k 0
theorem iget_lt {l : List Int} {k : Nat} (h : k < l.length) : iget l k = l[k] := by simp [iget, h]
theorem IsInts.open {w : World} {l : List Int} {a : Option Addr} (h : IsInts w l a) : ∃ (b o : Nat), (∀ k, k < l.length → a = some ⟨b, o, none⟩) ∧ ∀ k, k < l.length → w.cell? ⟨b, o + k, none⟩ = some (.int .i64 (iget l k)) := by
  rcases Nat.eq_zero_or_pos l.length with h0 | h0
  · exact ⟨0, 0, fun k hk => by omega, fun k hk => by omega⟩
  · obtain ⟨b, o, ha, _⟩ := h.at_ (Below.refl _ _) 0 h0
    refine ⟨b, o, fun _ _ => ha, fun k hk => ?_⟩
    obtain ⟨b', o', ha', h1, _⟩ := h.at_ (Below.refl _ _) k hk
    rw [ha] at ha'
    simp only [Option.some.injEq, Addr.mk.injEq, and_true] at ha'
    obtain ⟨rfl, rfl⟩ := ha'
    rw [iget_lt hk]; exact h1
end Go.Proofs.Ytnokgjajcnhkkaa

/- The lexicographic path order, as plain functions on terms. -/
namespace Go.Proofs.Ytnokgjajcnhkkaa
namespace T
-- Does a top stand in a term?
mutual
def has (v : Int) : T → Bool
  | .mk f l => decide (f = v) || hasL v l
def hasL (v : Int) : List T → Bool
  | [] => false
  | a :: r => has v a || hasL v r
end
theorem hasL_any (v : Int) : ∀ l, hasL v l = l.any (has v)
  | [] => rfl
  | a :: r => by rw [hasL, hasL_any v r, List.any_cons]
end T
/-- Rows compared: the first places that are not the same tell. -/
def lexR (R : T → T → Bool) : List T → List T → Bool
  | [], _ => false
  | _ :: _, [] => true
  | a :: r, b :: q => if T.same a b then lexR R r q else R a b
theorem lexR_congr {R R' : T → T → Bool} : ∀ (l q : List T), (∀ a ∈ l, ∀ b ∈ q, R a b = R' a b) → lexR R l q = lexR R' l q
  | [], _, _ => rfl
  | _ :: _, [], _ => rfl
  | a :: r, b :: q, h => by
    rw [lexR, lexR, lexR_congr r q (fun x hx y hy => h x (by simp [hx]) y (by simp [hy])), h a (by simp) b (by simp)]
namespace Od
mutual
/-- What a lexicographic order knows. -/
def lknows (o : Od) : T → Bool
  | .mk f l => if f < 0 then l.isEmpty else decide (f < o.prec.length) && lknowsL o l
def lknowsL (o : Od) : List T → Bool
  | [] => true
  | a :: r => lknows o a && lknowsL o r
end
theorem lknowsL_all (o : Od) : ∀ l, o.lknowsL l = l.all o.lknows
  | [] => rfl
  | a :: r => by rw [lknowsL, lknowsL_all o r, List.all_cons]
/-- One step of the order, over whatever stands for the order on what is smaller. -/
def lstep (o : Od) (R : T → T → Bool) (s t : T) : Bool :=
  if s.f < 0 then false
  else if t.f < 0 then T.has t.f s
  else s.args.any (fun a => T.same a t || R a t) ||
    (if s.f ≠ t.f then decide (o.rank t.f < o.rank s.f) && t.args.all (R s) else t.args.all (R s) && lexR R s.args t.args)
theorem lstep_congr (o : Od) {R R' : T → T → Bool} {s t : T} (h1 : ∀ a ∈ s.args, R a t = R' a t) (h2 : ∀ b ∈ t.args, R s b = R' s b) (h3 : ∀ a ∈ s.args, ∀ b ∈ t.args, R a b = R' a b) : o.lstep R s t = o.lstep R' s t := by
  unfold lstep
  have e1 : s.args.any (fun a => T.same a t || R a t) = s.args.any (fun a => T.same a t || R' a t) := by
    rw [Bool.eq_iff_iff, List.any_eq_true, List.any_eq_true]
    exact ⟨fun ⟨a, ha, h⟩ => ⟨a, ha, by rw [← h1 a ha]; exact h⟩, fun ⟨a, ha, h⟩ => ⟨a, ha, by rw [h1 a ha]; exact h⟩⟩
  have e2 : t.args.all (R s) = t.args.all (R' s) := by
    rw [Bool.eq_iff_iff, List.all_eq_true, List.all_eq_true]
    exact ⟨fun h b hb => by rw [← h2 b hb]; exact h b hb, fun h b hb => by rw [h2 b hb]; exact h b hb⟩
  rw [e1, e2, lexR_congr _ _ h3]
/-- The order, to so many steps. -/
def lgN (o : Od) : Nat → T → T → Bool
  | 0, _, _ => false
  | n + 1, s, t => o.lstep (lgN o n) s t
theorem lgN_enough (o : Od) : ∀ (n m : Nat) (s t : T), s.size + t.size ≤ n → s.size + t.size ≤ m → o.lgN n s t = o.lgN m s t
  | 0, _, s, _, h, _ => by have := T.size_eq s; omega
  | _ + 1, 0, s, _, _, h => by have := T.size_eq s; omega
  | n + 1, m + 1, s, t, hn, hm => by
    have hs := T.size_eq s
    have ht := T.size_eq t
    rw [lgN, lgN]
    refine lstep_congr o (fun a ha => ?_) (fun b hb => ?_) (fun a ha b hb => ?_)
    · have := T.size_le_sizeL ha; exact lgN_enough o n m _ _ (by omega) (by omega)
    · have := T.size_le_sizeL hb; exact lgN_enough o n m _ _ (by omega) (by omega)
    · have := T.size_le_sizeL ha; have := T.size_le_sizeL hb; exact lgN_enough o n m _ _ (by omega) (by omega)
/-- s is above t. -/
def lg (o : Od) (s t : T) : Bool := o.lgN (s.size + t.size) s t
theorem lg_eq (o : Od) (s t : T) : o.lg s t = o.lstep o.lg s t := by
  have hs := T.size_eq s
  have ht := T.size_eq t
  unfold lg
  rw [show s.size + t.size = (T.sizeL s.args + t.size) + 1 by omega, lgN]
  refine lstep_congr o (fun a ha => ?_) (fun b hb => ?_) (fun a ha b hb => ?_)
  · have := T.size_le_sizeL ha; exact lgN_enough o _ _ _ _ (by omega) (by omega)
  · have := T.size_le_sizeL hb; exact lgN_enough o _ _ _ _ (by omega) (by omega)
  · have := T.size_le_sizeL ha; have := T.size_le_sizeL hb; exact lgN_enough o _ _ _ _ (by omega) (by omega)
/-- How two terms stand: 0 none, 1 less, 2 equal, 3 greater. -/
def lcmp (o : Od) (s t : T) : Int :=
  if !o.lknows s || !o.lknows t then 0 else if T.same s t then 2 else if o.lg s t then 3 else if o.lg t s then 1 else 0
end Od
/-! ### A term laid out -/
/-- A part of a term, the numbers of its arguments. -/
structure Nd where
  t : T
  args : List Nat
instance : Inhabited Nd := ⟨⟨.mk 0 [], []⟩⟩
def kids : List T → Nat → List Nat
  | [], _ => []
  | a :: r, n => n :: kids r (n + a.size)
mutual
def lay : T → Nat → List Nd
  | .mk f l, n => ⟨.mk f l, kids l (n + 1)⟩ :: layL l (n + 1)
def layL : List T → Nat → List Nd
  | [], _ => []
  | a :: r, n => lay a n ++ layL r (n + a.size)
end
mutual
theorem lay_len : ∀ (t : T) (n : Nat), (lay t n).length = t.size
  | .mk f l, n => by rw [lay, List.length_cons, layL_len l, T.size]; omega
theorem layL_len : ∀ (l : List T) (n : Nat), (layL l n).length = T.sizeL l
  | [], _ => rfl
  | a :: r, n => by rw [layL, List.length_append, lay_len a, layL_len r, T.sizeL]
end
theorem kids_len : ∀ (l : List T) (n : Nat), (kids l n).length = l.length
  | [], _ => rfl
  | a :: r, n => by rw [kids, List.length_cons, kids_len r, List.length_cons]
theorem kids_append : ∀ (l r : List T) (n : Nat), kids (l ++ r) n = kids l n ++ kids r (n + T.sizeL l)
  | [], r, n => by simp [kids, T.sizeL]
  | a :: l, r, n => by rw [List.cons_append, kids, kids, kids_append l r, T.sizeL, List.cons_append, Nat.add_assoc]
theorem layL_append : ∀ (l r : List T) (n : Nat), layL (l ++ r) n = layL l n ++ layL r (n + T.sizeL l)
  | [], r, n => by simp [layL, T.sizeL]
  | a :: l, r, n => by rw [List.cons_append, layL, layL, layL_append l r, T.sizeL, List.append_assoc, Nat.add_assoc]
/-- In the row 'l', from n on, t is laid out. -/
def ndget (l : List Nd) (k : Nat) : Nd := l.getD k default
/-- Each part's arguments stand where it says. -/
def GoodAt (l : List Nd) (k : Nat) : Prop := (ndget l k).args.length = (ndget l k).t.args.length ∧ ∀ j (h : j < (ndget l k).t.args.length), (ndget l k).args.getD j 0 < l.length ∧ (ndget l ((ndget l k).args.getD j 0)).t = (ndget l k).t.args[j]
theorem ndget_append_right (p q : List Nd) (k : Nat) : ndget (p ++ q) (p.length + k) = ndget q k := by
  unfold ndget
  rw [List.getD_eq_getElem?_getD, List.getD_eq_getElem?_getD, List.getElem?_append_right (by omega)]
  congr 2; omega
theorem ndget_append_left (p q : List Nd) (k : Nat) (h : k < p.length) : ndget (p ++ q) k = ndget p k := by
  unfold ndget
  rw [List.getD_eq_getElem?_getD, List.getD_eq_getElem?_getD, List.getElem?_append_left h]
theorem lay_head (t : T) (n : Nat) : (ndget (lay t n) 0).t = t := by cases t; rfl
theorem kids_at : ∀ (l : List T) (n j : Nat) (p q : List Nd), p.length = n → (h : j < l.length) → (kids l n).getD j 0 < n + T.sizeL l ∧ (ndget (p ++ layL l n ++ q) ((kids l n).getD j 0)).t = l[j]
  | [], _, _, _, _, _, h => by simp at h
  | a :: r, n, j, p, q, hp, h => by
    cases j with
    | zero =>
      have ha := T.size_eq a
      refine ⟨by simp only [kids, List.getD_cons_zero, T.sizeL]; omega, ?_⟩
      simp only [kids, List.getD_cons_zero, List.getElem_cons_zero, layL]
      rw [List.append_assoc, show n = p.length + 0 by omega, ndget_append_right, List.append_assoc, ndget_append_left _ _ _ (by rw [lay_len]; omega), lay_head]
    | succ j =>
      have := kids_at r (n + a.size) j (p ++ lay a n) q (by rw [List.length_append, lay_len, hp]) (by simpa using h)
      simp only [kids, List.getD_cons_succ, List.getElem_cons_succ, layL, T.sizeL]
      refine ⟨by omega, ?_⟩
      rw [← this.2]
      congr 2
      simp [List.append_assoc]
mutual
theorem lay_good : ∀ (t : T) (n : Nat) (p q : List Nd), p.length = n → ∀ k, n ≤ k → k < n + t.size → GoodAt (p ++ lay t n ++ q) k
  | .mk f l, n, p, q, hp, k, h1, h2 => by
    rw [T.size] at h2
    have e : p ++ lay (.mk f l) n ++ q = (p ++ [⟨.mk f l, kids l (n + 1)⟩]) ++ layL l (n + 1) ++ q := by rw [lay]; simp [List.append_assoc]
    by_cases hk : k = n
    · subst hk
      have e1 : ndget (p ++ lay (.mk f l) k ++ q) k = ⟨.mk f l, kids l (k + 1)⟩ := by
        rw [List.append_assoc, show k = p.length + 0 by omega, ndget_append_right, lay]; rfl
      unfold GoodAt
      rw [e1]
      refine ⟨kids_len _ _, fun j hj => ?_⟩
      have hj' : j < l.length := hj
      have := kids_at l (k + 1) j (p ++ [⟨.mk f l, kids l (k + 1)⟩]) q (by simp [hp]) hj'
      rw [← e] at this
      refine ⟨?_, this.2⟩
      have hlen : (p ++ lay (.mk f l) k ++ q).length = p.length + (1 + T.sizeL l) + q.length := by simp [lay_len, T.size, Nat.add_assoc]
      have h3 := this.1
      show (kids l (k + 1)).getD j 0 < _
      rw [hlen]; omega
    · rw [e]
      exact layL_good l (n + 1) _ q (by simp [hp]) k (by omega) (by omega)
theorem layL_good : ∀ (l : List T) (n : Nat) (p q : List Nd), p.length = n → ∀ k, n ≤ k → k < n + T.sizeL l → GoodAt (p ++ layL l n ++ q) k
  | [], n, _, _, _, k, h1, h2 => by simp [T.sizeL] at h2; omega
  | a :: r, n, p, q, hp, k, h1, h2 => by
    rw [T.sizeL] at h2
    by_cases hk : k < n + a.size
    · have := lay_good a n p (layL r (n + a.size) ++ q) hp k h1 hk
      rw [layL]; simpa [List.append_assoc] using this
    · have := layL_good r (n + a.size) (p ++ lay a n) q (by rw [List.length_append, lay_len, hp]) k (by omega) (by omega)
      rw [layL]; simpa [List.append_assoc] using this
end
/-- A term laid out by itself. -/
theorem lay0_good (t : T) (k : Nat) (h : k < (lay t 0).length) : GoodAt (lay t 0) k := by
  have := lay_good t 0 [] [] rfl k (Nat.zero_le _) (by rw [lay_len] at h; omega)
  simpa using this
-- What the whole knows, each part knows.
mutual
theorem lay_known (o : Od) : ∀ (t : T) (n : Nat), o.lknows t = true → ∀ x ∈ lay t n, o.lknows x.t = true
  | .mk f l, n, h, x, hx => by
    rw [lay, List.mem_cons] at hx
    rcases hx with rfl | hx
    · exact h
    · refine layL_known o l (n + 1) ?_ x hx
      rw [Od.lknows] at h
      split at h
      · rw [List.isEmpty_iff] at h; subst h; rfl
      · simp only [Bool.and_eq_true] at h; exact h.2
theorem layL_known (o : Od) : ∀ (l : List T) (n : Nat), o.lknowsL l = true → ∀ x ∈ layL l n, o.lknows x.t = true
  | [], _, _, x, hx => by simp [layL] at hx
  | a :: r, n, h, x, hx => by
    rw [Od.lknowsL, Bool.and_eq_true] at h
    rw [layL, List.mem_append] at hx
    rcases hx with hx | hx
    · exact lay_known o a n h.1 x hx
    · exact layL_known o r _ h.2 x hx
end
theorem ndget_mem {l : List Nd} {k : Nat} (h : k < l.length) : ndget l k ∈ l := by
  have : ndget l k = l[k] := by simp [ndget, h]
  rw [this]; exact List.getElem_mem h
theorem lknows_top {o : Od} {t : T} (h : o.lknows t = true) : t.f < o.prec.length ∧ (t.f < 0 → t.args = []) := by
  obtain ⟨f, l⟩ := t
  rw [Od.lknows] at h
  split at h
  · rename_i hf
    rw [List.isEmpty_iff] at h; subst h; exact ⟨by simp only [T.f_mk]; omega, fun _ => rfl⟩
  · rename_i hf
    simp only [Bool.and_eq_true, decide_eq_true_eq] at h
    exact ⟨h.1, fun h' => absurd h' hf⟩
end Go.Proofs.Ytnokgjajcnhkkaa

/- A term laid out in a row of its parts: how it lies in memory while it grows. -/
namespace Go.Proofs.Ytnokgjajcnhkkaa
open Go.RowKit Go
def natV (n : Nat) : Value := .int .i64 n
/-- The numbers lie at X, in a block that N holds of. -/
def ArgRow (w : World) (N : Nat → Prop) (X : Option Addr) (args : List Nat) : Prop :=
  args = [] ∨ ∃ g, X = some ⟨g, 0, none⟩ ∧ N g ∧ g < w.heap.size ∧ ∀ j, j < args.length → w.cell? ⟨g, j, none⟩ = some (natV (args.getD j 0))
/-- The cells are those of the parts. -/
def NdsAt (w0 w : World) (N : Nat → Prop) : List Nd → List Value → Prop
  | [], xs => xs = []
  | d :: r, xs => ∃ (A : Option Addr) (C : Nat) (X : Option Addr) (Z : Nat) (ys : List Value), xs = .int .i64 d.t.f :: .slice A d.t.args.length C :: .slice X d.args.length Z :: ys ∧
      IsT w0 d.t (.agg #[.int .i64 d.t.f, .slice A d.t.args.length C]) ∧ ArgRow w N X d.args ∧ NdsAt w0 w N r ys
section
variable {w0 w w' : World} {N N' S : Nat → Prop}
theorem ArgRow.keep {X : Option Addr} {args : List Nat} (h : ArgRow w N X args) (hc : Chg S w w') (hN : ∀ g, g < w.heap.size → N g → ¬ S g ∧ N' g) : ArgRow w' N' X args := by
  rcases h with h | ⟨g, h1, h2, h3, h4⟩
  · exact .inl h
  · have := hN g h3 h2
    exact .inr ⟨g, h1, this.2, Nat.lt_of_lt_of_le h3 hc.size, fun j hj => chg_cell hc this.1 (h4 j hj)⟩
theorem NdsAt.keep : ∀ {l : List Nd} {xs : List Value}, NdsAt w0 w N l xs → Chg S w w' → (∀ g, g < w.heap.size → N g → ¬ S g ∧ N' g) → NdsAt w0 w' N' l xs
  | [], _, h, _, _ => h
  | _ :: _, _, ⟨A, C, X, Z, ys, h1, h2, h3, h4⟩, hc, hN => ⟨A, C, X, Z, ys, h1, h2, h3.keep hc hN, NdsAt.keep h4 hc hN⟩
theorem NdsAt.append : ∀ {l r : List Nd} {xs ys : List Value}, NdsAt w0 w N l xs → NdsAt w0 w N r ys → NdsAt w0 w N (l ++ r) (xs ++ ys)
  | [], _, _, _, h, k => by
    have h : _ = [] := h
    subst h; exact k
  | _ :: _, _, _, _, ⟨A, C, X, Z, zs, h1, h2, h3, h4⟩, k => ⟨A, C, X, Z, zs ++ _, by rw [h1]; rfl, h2, h3, NdsAt.append h4 k⟩
theorem NdsAt.len : ∀ {l : List Nd} {xs : List Value}, NdsAt w0 w N l xs → xs.length = l.length * 3
  | [], _, h => by have h : _ = [] := h; subst h; rfl
  | _ :: r, _, ⟨_, _, _, _, ys, h1, _, _, h4⟩ => by rw [h1]; have := NdsAt.len h4; simp only [List.length_cons]; omega
theorem NdsAt.at_ : ∀ {l : List Nd} {xs : List Value}, NdsAt w0 w N l xs → ∀ k, k < l.length →
    ∃ (A : Option Addr) (C : Nat) (X : Option Addr) (Z : Nat), xs[k * 3]? = some (.int .i64 (ndget l k).t.f) ∧ xs[k * 3 + 1]? = some (.slice A (ndget l k).t.args.length C) ∧ xs[k * 3 + 2]? = some (.slice X (ndget l k).args.length Z) ∧
      IsT w0 (ndget l k).t (.agg #[.int .i64 (ndget l k).t.f, .slice A (ndget l k).t.args.length C]) ∧ ArgRow w N X (ndget l k).args
  | [], _, _, k, hk => by simp at hk
  | d :: r, _, ⟨A, C, X, Z, ys, h1, h2, h3, h4⟩, k, hk => by
    cases k with
    | zero => exact ⟨A, C, X, Z, by rw [h1]; rfl, by rw [h1]; rfl, by rw [h1]; rfl, h2, h3⟩
    | succ k =>
      obtain ⟨A', C', X', Z', e1, e2, e3, e4, e5⟩ := NdsAt.at_ h4 k (by simpa using hk)
      have e : ndget (d :: r) (k + 1) = ndget r k := by simp [ndget]
      rw [e]
      refine ⟨A', C', X', Z', ?_, ?_, ?_, e4, e5⟩
      · rw [h1, show (k + 1) * 3 = k * 3 + 3 by omega]; exact e1
      · rw [h1, show (k + 1) * 3 + 1 = k * 3 + 1 + 3 by omega]; exact e2
      · rw [h1, show (k + 1) * 3 + 2 = k * 3 + 2 + 3 by omega]; exact e3
variable {e size : Nat} {ra : Option Addr} {rc n b c : Nat} {xs : List Value}
/-- A row that is not empty lies in one block. -/
theorem own_pick (h : Own w S e size ra rc n xs) (hn : 0 < n) : ∃ b, S b ∧ ra = some ⟨b, 0, none⟩ ∧ b < w.heap.size ∧ Own w (fun k => k = b) e size (some ⟨b, 0, none⟩) rc n xs := by
  rcases h.1.2 with ⟨_, h0⟩ | ⟨g, cap, cur, e1, h1, hb, r⟩
  · omega
  · simp only [Value.slice.injEq, true_and] at e1
    obtain ⟨rfl, rfl⟩ := e1
    exact ⟨g, h.2 g rfl, rfl, (Array.getElem?_eq_some_iff.1 hb).1, h.1, fun k hk => (Option.some.inj hk).symm⟩
theorem own_cell (h : Own w S e size (some ⟨b, 0, none⟩) rc n xs) {i : Nat} {v : Value} (hi : xs[i]? = some v) : w.cell? ⟨b, i, none⟩ = some v := by
  have := h.1.cells (g := b) rfl i v hi
  rwa [add_plain2, Nat.zero_add] at this
/-- A cell of such a row, written. -/
theorem own_set (h : Own w S e size (some ⟨b, 0, none⟩) rc n xs) (i : Nat) (v : Value) : Own (w.setCell ⟨b, i, none⟩ v) S e size (some ⟨b, 0, none⟩) rc n (xs.set i v) := by
  refine ⟨⟨by rw [List.length_set]; exact h.1.1, ?_⟩, h.2⟩
  rcases h.1.2 with ⟨e1, _⟩ | ⟨g, cap, cur, e1, h1, hb, h2, h3, h4, h5⟩
  · cases e1
  · simp only [Value.slice.injEq, Option.some.injEq, Addr.mk.injEq, and_true, true_and] at e1
    obtain ⟨rfl, rfl⟩ := e1
    have hg := (Array.getElem?_eq_some_iff.1 hb).1
    refine .inr ⟨b, rc, cur.setIfInBounds i v, rfl, h1, ?_, h2, h3, by simpa using h4, ?_⟩
    · have hB : Blk w b e cur := hb
      exact hB.set_ i v
    · rw [← h5, Array.toList_setIfInBounds, List.take_set]
theorem own_mono (h : Own w S e size ra rc n xs) (hS : ∀ b, S b → N b) : Own w N e size ra rc n xs := ⟨h.1, fun b hb => hS b (h.2 b hb)⟩
theorem own_len (h : Own w S e size ra rc n xs) : xs.length = n * size := h.1.1
theorem own_upd (_ : Own w S e size (some ⟨b, 0, none⟩) rc n xs) (i : Nat) (v : Value) : Upd b w (w.setCell ⟨b, i, none⟩ v) := Upd.at_ _ _ _ _
end
/-- The state in the middle of a part: q of its arguments are laid out, m of them are numbered. -/
structure LaySt (E : TypeId) (w0 : World) (sz : Nat) (n : Nat) (xs : List Value) (f : Int) (a : Option Addr) (c : Nat) (l : List T) (bm rc : Nat) (xa : Option Addr) (xz ba la : Nat) (ys : List Value) (q m : Nat) (w : World) : Prop where
  main : Own w (fun g => g = bm) E 3 (some ⟨bm, 0, none⟩) rc (n + 1 + T.sizeL (l.take q)) (xs ++ [.int .i64 f, .slice a l.length c, .slice xa m xz] ++ ys)
  args : Own w (fun g => g = ba ∧ g < la) 3 1 xa xz m ((kids (l.take m) (n + 1)).map natV)
  nds : NdsAt w0 w (fun g => g ≠ bm ∧ ¬ (g = ba ∧ g < la) ∧ sz ≤ g) (layL (l.take q) (n + 1)) ys
  ne : ¬ (bm = ba ∧ bm < la)
  lt : bm < w.heap.size
  hla : la ≤ w.heap.size
  hba : ba < la → sz ≤ ba
/-- What laying out a term leaves. -/
def LayP (E : TypeId) (w0 w : World) (bm lo n : Nat) (xs : List Value) (t : T) (v' : Value) (w' : World) : Prop :=
  ∃ (bm' rc' : Nat) (ys : List Value), v' = .slice (some ⟨bm', 0, none⟩) (n + t.size) rc' ∧ Own w' (fun g => g = bm') E 3 (some ⟨bm', 0, none⟩) rc' (n + t.size) (xs ++ ys) ∧ NdsAt w0 w' (fun g => g ≠ bm' ∧ w.heap.size ≤ g) (lay t n) ys ∧ bm' < w'.heap.size ∧
    Chg (fun k => k = bm ∧ k < lo) w w' ∧ ((bm' = bm ∧ bm' < lo) ∨ w.heap.size ≤ bm')
theorem lay_cell {xs ys : List Value} {u v z : Value} {n : Nat} (hx : xs.length = n * 3) : (xs ++ [u, v, z] ++ ys)[0 + n * 3 + 2]? = some z := by
  rw [List.append_assoc, List.getElem?_append_right (by omega), show 0 + n * 3 + 2 - xs.length = 2 by omega]; rfl
theorem lay_set {xs ys : List Value} {u v z z' : Value} {n : Nat} (hx : xs.length = n * 3) : (xs ++ [u, v, z] ++ ys).set (0 + n * 3 + 2) z' = xs ++ [u, v, z'] ++ ys := by
  rw [List.append_assoc, List.append_assoc, List.set_append_right _ _ (by omega), show 0 + n * 3 + 2 - xs.length = 2 by omega]; rfl
theorem sizeL_take_t {l : List T} {k : Nat} (h : k < l.length) : T.sizeL (l.take (k + 1)) = T.sizeL (l.take k) + (tget l k).size := by rw [T.sizeL_take_succ l k h, tget_lt h]
theorem layL_take {l : List T} {k n : Nat} (h : k < l.length) : layL (l.take (k + 1)) n = layL (l.take k) n ++ lay (tget l k) (n + T.sizeL (l.take k)) := by
  rw [List.take_succ_eq_append_getElem h, layL_append, tget_lt h]; simp [layL]
theorem kids_take {l : List T} {k n : Nat} (h : k < l.length) : kids (l.take (k + 1)) n = kids (l.take k) n ++ [n + T.sizeL (l.take k)] := by
  rw [List.take_succ_eq_append_getElem h, kids_append]; simp [kids]
section
variable {E : TypeId} {w0 w w' w'' : World} {sz n : Nat} {xs : List Value} {f : Int} {a : Option Addr} {c : Nat} {l : List T} {bm rc : Nat} {xa : Option Addr} {xz ba la : Nat} {ys : List Value} {q m : Nat}
theorem LaySt.below (h : LaySt E w0 sz n xs f a c l bm rc xa xz ba la ys q m w) (hb : Below w.heap.size w w') : LaySt E w0 sz n xs f a c l bm rc xa xz ba la ys q m w' :=
  ⟨h.main.below hb, h.args.below hb, h.nds.keep (S := fun _ => False) (.ofBelow hb) (fun _ _ h => ⟨id, h⟩), h.ne, Nat.lt_of_lt_of_le h.lt hb.size, Nat.le_trans h.hla hb.size, h.hba⟩
/-- The first part is laid. -/
theorem LaySt.start (h : Own w (fun g => g = bm) E 3 (some ⟨bm, 0, none⟩) rc (n + 1) (xs ++ [.int .i64 f, .slice a l.length c, .slice none 0 0])) (hlt : bm < w.heap.size) : LaySt E w0 sz n xs f a c l bm rc none 0 0 0 [] 0 0 w :=
  ⟨by simpa [T.sizeL] using h, own_nil, rfl, by omega, hlt, Nat.zero_le _, fun h => by omega⟩
/-- One more argument is numbered. -/
theorem LaySt.app {ba' rc' v : Nat} (h : LaySt E w0 sz n xs f a c l bm rc xa xz ba la ys q m w) (hx : xs.length = n * 3) (hc : Chg (fun g => (g = ba ∧ g < la) ∨ g = w.heap.size) w w') (hsz : sz ≤ w.heap.size)
    (hA : Own w' (fun g => g = ba') 3 1 (some ⟨ba', 0, none⟩) rc' (m + 1) ((kids (l.take m) (n + 1)).map natV ++ [natV v])) (hS : (ba' = ba ∧ ba' < la) ∨ ba' = w.heap.size) (hb : ba' < w'.heap.size) (hv : v = n + 1 + T.sizeL (l.take m)) (hm : m < l.length)
    (hw : w'' = w'.setCell ⟨bm, 0 + n * 3 + 2, none⟩ (.slice (some ⟨ba', 0, none⟩) (m + 1) rc')) :
    LaySt E w0 sz n xs f a c l bm rc (some ⟨ba', 0, none⟩) rc' ba' (ba' + 1) ys q (m + 1) w'' := by
  subst hw
  have hlt := h.lt
  have hne := h.ne
  have hla := h.hla
  have hba := h.hba
  have hM := h.main.chg hc (fun b hb => by omega)
  have hM' := own_set hM (0 + n * 3 + 2) (.slice (some ⟨ba', 0, none⟩) (m + 1) rc')
  rw [lay_set hx] at hM'
  have hu := own_upd hM (0 + n * 3 + 2) (.slice (some ⟨ba', 0, none⟩) (m + 1) rc')
  have hN := h.nds.keep hc (N' := fun g => g ≠ bm ∧ ¬ (g = ba' ∧ g < ba' + 1) ∧ sz ≤ g) (fun g hg hn => ⟨by omega, by omega⟩)
  refine ⟨hM', ?_, hN.keep (S := fun g => g = bm) (.ofUpd hu rfl) (fun g _ hn => ⟨hn.1, hn⟩), by omega, by rw [hu.size]; exact Nat.lt_of_lt_of_le hlt hc.size, by rw [hu.size]; omega, fun _ => by omega⟩
  rw [kids_take hm, List.map_append, List.map_cons, List.map_nil, ← hv]
  exact own_mono (hA.upd hu (by omega)) (fun b hb => ⟨hb, by omega⟩)
/-- One more argument is laid out. -/
theorem LaySt.call {v' : Value} (h : LaySt E w0 sz n xs f a c l bm rc xa xz ba la ys q m w) (hsz : sz ≤ w.heap.size) (hq : q < l.length) (hP : LayP E w0 w bm (bm + 1) (n + 1 + T.sizeL (l.take q)) (xs ++ [.int .i64 f, .slice a l.length c, .slice xa m xz] ++ ys) (tget l q) v' w') :
    ∃ (bm' rc' : Nat) (ys' : List Value), v' = .slice (some ⟨bm', 0, none⟩) (n + 1 + T.sizeL (l.take (q + 1))) rc' ∧ LaySt E w0 sz n xs f a c l bm' rc' xa xz ba la ys' (q + 1) m w' ∧ Chg (fun g => g = bm) w w' ∧ (bm' = bm ∨ w.heap.size ≤ bm') := by
  obtain ⟨bm', rc', ys', rfl, h1, h2, h3, h4, h5⟩ := hP
  have hlt := h.lt
  have hne := h.ne
  have hla := h.hla
  have hba := h.hba
  have e : n + 1 + T.sizeL (l.take q) + (tget l q).size = n + 1 + T.sizeL (l.take (q + 1)) := by rw [sizeL_take_t hq, Nat.add_assoc]
  rw [e] at h1 ⊢
  refine ⟨bm', rc', ys ++ ys', rfl, ⟨by rw [← List.append_assoc]; exact h1, h.args.chg h4 (fun b hb => by omega), ?_, by omega, h3, Nat.le_trans hla h4.size, hba⟩, h4.mono (fun k hk => hk.1), by omega⟩
  rw [layL_take hq]
  refine NdsAt.append (h.nds.keep h4 (fun g hg hn => ⟨by omega, by omega⟩)) (h2.keep (S := fun _ => False) (.refl _ _) (fun g hg hn => ⟨id, ?_⟩))
  have hn1 : g ≠ bm' := hn.1
  have hn2 : w.heap.size ≤ g := hn.2
  exact ⟨hn1, by omega, by omega⟩
/-- All is laid out. -/
theorem LaySt.done {lo bm0 : Nat} (h : LaySt E w0 w.heap.size n xs f a c l bm rc xa xz ba la ys q m w') (hT : IsT w0 (.mk f l) (.agg #[.int .i64 f, .slice a l.length c])) (hq : l.length ≤ q) (hm : m = l.length) (hC : Chg (fun k => k = bm0 ∧ k < lo) w w') (hb : (bm = bm0 ∧ bm < lo) ∨ w.heap.size ≤ bm) :
    LayP E w0 w bm0 lo n xs (.mk f l) (.slice (some ⟨bm, 0, none⟩) (n + 1 + T.sizeL (l.take q)) rc) w' := by
  have hM := h.main
  have hN := h.nds
  have hA := h.args
  have hne := h.ne
  have hba := h.hba
  rw [List.take_of_length_le (by omega)] at hM hN hA ⊢
  have e : n + 1 + T.sizeL l = n + (T.mk f l).size := by rw [T.size]; omega
  rw [e] at hM ⊢
  subst hm
  refine ⟨bm, rc, [.int .i64 f, .slice a l.length c, .slice xa l.length xz] ++ ys, rfl, by rw [← List.append_assoc]; exact hM, ?_, h.lt, hC, hb⟩
  rw [lay]
  refine ⟨a, c, xa, xz, ys, by rw [kids_len]; rfl, hT, ?_, hN.keep (S := fun _ => False) (.refl _ _) (fun g _ hn => ⟨id, hn.1, hn.2.2⟩)⟩
  rcases Nat.eq_zero_or_pos l.length with h0 | h0
  · obtain rfl : l = [] := List.length_eq_zero_iff.1 h0
    exact .inl rfl
  · obtain ⟨b, hb1, hb2, hb3, hb4⟩ := own_pick hA h0
    refine .inr ⟨b, hb2, ⟨by omega, by omega⟩, hb3, fun j hj => own_cell hb4 ?_⟩
    have hj : j < (kids l (n + 1)).length := hj
    simp [List.getD_eq_getElem?_getD, List.getElem?_eq_getElem hj]
end
/-- The addresses in the middle of a part. -/
structure LayX where
  bm : Nat
  rc : Nat
  xa : Option Addr
  xz : Nat
  ba : Nat
  la : Nat
  ys : List Value
  k : Nat
end Go.Proofs.Ytnokgjajcnhkkaa

/- Maps from pairs of numbers to truth values: what all their entries are. -/
namespace Go.Proofs.Ytnokgjajcnhkkaa
open Go.RowKit Go.Sort Go
def prV (x : Nat × Nat) : Value := .agg #[.int .i64 x.1, .int .i64 x.2]
theorem eqPr (a b c d : Int) (w : World) : (binOp .eql 94 (.agg #[.int .i64 a, .int .i64 b]) (.agg #[.int .i64 c, .int .i64 d])).run Try.prog w = .ok (.bool (decide (a = c ∧ b = d))) w := by
  have hS : Try.prog.underlying 94 = some (.struct (Try.prog.fieldsOf 94)) := by kernel_rfl
  have hp : Try.prog.stoodInHeld 94 = false := by kernel_rfl
  have u2 := Try.underlying3
  rw [run_eql_struct, show (10000 : Nat) = 9999 + 1 from rfl, run_equalIn_agg w 9999 94 _ _ hS hp]
  simp only [Program.fieldsOf, Try.underlying94]
  go_simp
  by_cases h1 : a = c <;> by_cases h2 : b = d <;> simp_all
theorem run_equal_pr (x y : Nat × Nat) (w : World) : (Op.equal 94 (prV x) (prV y)).run Try.prog w = .ok (decide (x = y)) w := by
  have h := eqPr x.1 x.2 y.1 y.2 w
  have e : (binOp .eql 94 (prV x) (prV y)).run Try.prog w = ((Op.equal 94 (prV x) (prV y)).run Try.prog w).andThen fun b w' => .ok (.bool b) w' := by
    simp [binOp, prV]
  unfold prV at *
  rw [e] at h
  have hd : decide ((x.1 : Int) = y.1 ∧ (x.2 : Int) = y.2) = decide (x = y) := by
    rw [decide_eq_decide, Prod.ext_iff]; omega
  cases hr : (Op.equal 94 (.agg #[.int .i64 x.1, .int .i64 x.2]) (.agg #[.int .i64 y.1, .int .i64 y.2])).run Try.prog w with
  | ok b w' =>
    rw [hr] at h
    simp only [Result.andThen_ok, Result.ok.injEq, Value.bool.injEq] at h ⊢
    exact ⟨h.1.trans hd, h.2⟩
  | halt z w' => rw [hr] at h; simp [Result.andThen] at h
set_option maxRecDepth 20000 in
theorem run_checkKey_pr (b : Bool) (x : Nat × Nat) (w : World) : (Instr.checkKey b 10000 94 (prV x)).run Try.prog w = .ok () w := by
  have u0 := Try.underlying94
  have u2 := Try.underlying3
  rw [show (10000 : Nat) = 9998 + 1 + 1 from rfl]
  generalize (9998 : Nat) = n
  unfold prV
  simp [Instr.checkKey, run_underlying u0, run_underlying u2, go_sem]
theorem run_getObj_map (P : Program) (w : World) (r : Nat) (es : Array MapEntry) (clock : Nat) (h : w.heap[r]? = some (.map es clock)) : (getObj r).run P w = .ok (.map es clock) w := by
  simp [getObj, Sem.run, h]
/-- A map, of whose entries Q holds. -/
def PrMap (w : World) (r : Nat) (Q : Nat × Nat → Bool → Prop) : Prop := ∃ es clock, w.heap[r]? = some (.map es clock) ∧ ∀ e ∈ es.toList, ∃ x b, e.key = prV x ∧ e.val = .bool b ∧ Q x b
theorem run_findAsking_pr {Q : Nat × Nat → Bool → Prop} (x : Nat × Nat) : ∀ (es : List MapEntry) (i : Nat), (∀ e ∈ es, ∃ x b, e.key = prV x ∧ e.val = .bool b ∧ Q x b) →
    ∃ r, (∀ w, (Instr.findAsking 94 (prV x) es i).run Try.prog w = .ok r w) ∧ (r = none ∨ ∃ j b, r = some (j, .bool b) ∧ Q x b ∧ i ≤ j ∧ ∃ e, es[j - i]? = some e ∧ e.key = prV x)
  | [], i, _ => ⟨none, fun w => by simp [Instr.findAsking], .inl rfl⟩
  | e :: es, i, h => by
    obtain ⟨y, b, hk, hv, hq⟩ := h e (by simp)
    unfold Instr.findAsking
    simp only [Sem.run_bind, hk, run_equal_pr, Result.andThen_ok]
    by_cases hxy : x = y
    · subst hxy
      exact ⟨some (i, e.val), fun w => by simp, .inr ⟨i, b, by rw [hv], hq, Nat.le_refl _, e, by simp, hk⟩⟩
    · obtain ⟨r, h1, h2⟩ := run_findAsking_pr x es (i + 1) (fun e he => h e (by simp [he]))
      refine ⟨r, fun w => by simpa [hxy] using h1 w, ?_⟩
      rcases h2 with h2 | ⟨j, b, h2, h3, h4, e', h5, h6⟩
      · exact .inl h2
      · refine .inr ⟨j, b, h2, h3, by omega, e', ?_, h6⟩
        rw [show j - i = (j - (i + 1)) + 1 by omega]; simpa using h5
theorem run_findKey_pr {Q : Nat × Nat → Bool → Prop} (x : Nat × Nat) (es : List MapEntry) (h : ∀ e ∈ es, ∃ x b, e.key = prV x ∧ e.val = .bool b ∧ Q x b) :
    ∃ r, (∀ w, (Instr.findKey 94 (prV x) es).run Try.prog w = .ok r w) ∧ (r = none ∨ ∃ j b, r = some (j, .bool b) ∧ Q x b ∧ ∃ e, es[j]? = some e ∧ e.key = prV x) := by
  have u0 := Try.underlying94
  cases es with
  | nil => exact ⟨none, fun w => by simp [Instr.findKey, run_underlying u0, Instr.findNow], .inl rfl⟩
  | cons e es =>
    obtain ⟨r, h1, h2⟩ := run_findAsking_pr x (e :: es) 0 h
    refine ⟨r, fun w => ?_, ?_⟩
    · have hs : Instr.findNow (.struct (Try.prog.fieldsOf 94)) (prV x) (e :: es) 0 = none := by
        simp [Instr.findNow, Instr.sameNow]
      have hU : Try.prog.underlying 94 = some (.struct (Try.prog.fieldsOf 94)) := by kernel_rfl
      unfold Instr.findKey
      simp only [Sem.run_bind, run_underlying hU, Result.andThen_ok, hs]
      exact h1 w
    · rcases h2 with h2 | ⟨j, b, h2, h3, _, e', h5, h6⟩
      · exact .inl h2
      · exact .inr ⟨j, b, h2, h3, e', by simpa using h5, h6⟩
set_option maxRecDepth 20000 in
theorem stays_pr (x : Nat × Nat) (w : World) : (Instr.keyThatStays (prV x) (prV x)).run Try.prog w = .ok (prV x) w := by
  have h : Instr.sameBits 10000 (prV x) (prV x) = true := by
    rw [show (10000 : Nat) = 9998 + 1 + 1 from rfl]
    generalize (9998 : Nat) = n
    simp [Instr.sameBits, prV]
  unfold Instr.keyThatStays
  rw [if_pos h]; rfl
section
variable {w : World} {a : Act} {K : Act → World → Prop} {Q : Exit → Act → World → Prop} {o : Oper} {R : Nat × Nat → Bool → Prop}
set_option maxRecDepth 20000 in
theorem wp_lookup_pr {r : Nat} (s : Nat × Nat) (hM : PrMap w r R) : ∃ b f, (f = true → R s b) ∧ ∀ {w' : World} {a : Act} {K : Act → World → Prop} {Q : Exit → Act → World → Prop} {o : Oper} {x y : Operand}, w'.heap[r]? = w.heap[r]? →
    o.op = .lookup 85 x y true → a.eval x = .map (some r) → a.eval y = prV s → K (a.put o.dst (.tuple #[.bool b, .bool f])) w' → o.wp Try.prog a w' K Q := by
  obtain ⟨es, clock, h1, h2⟩ := hM
  obtain ⟨r0, h4, h5⟩ := run_findKey_pr s es.toList h2
  have um := Try.underlying85
  have hi : (Try.prog.info? 4).map (fun i => i.zero) = some (some (.bool false)) := by kernel_rfl
  have fin : ∀ b f, ((match r0 with | some (_, v) => v | none => .bool false) = .bool b ∧ r0.isSome = f) → ∀ {w' : World} {a : Act} {K : Act → World → Prop} {Q : Exit → Act → World → Prop} {o : Oper} {x y : Operand}, w'.heap[r]? = w.heap[r]? →
    o.op = .lookup 85 x y true → a.eval x = .map (some r) → a.eval y = prV s → K (a.put o.dst (.tuple #[.bool b, .bool f])) w' → o.wp Try.prog a w' K Q := by
    intro b f hbf w' a K Q o x y hw ho hx hy this
    have hg : (getObj r).run Try.prog w' = .ok (.map es clock) w' := by rw [run_getObj_map _ _ _ _ _ (hw.trans h1)]
    unfold Oper.wp execOp
    simp only [ho, hx, hy, Instr.lookup, Sem.run_bind, Sem.run_pure, run_underlying um, Result.andThen_ok, hg, run_checkKey_pr, h4]
    rcases h5 with rfl | ⟨j, b', rfl, hb, _⟩
    · obtain ⟨e1, e2⟩ := hbf
      simp only [Value.bool.injEq, Option.isSome_none] at e1 e2
      subst e1 e2
      go_simp
      exact this
    · obtain ⟨e1, e2⟩ := hbf
      simp only [Value.bool.injEq, Option.isSome_some] at e1 e2
      subst e1 e2
      simp
      exact this
  rcases h5 with rfl | ⟨j, b, rfl, hb, _⟩
  · exact ⟨false, false, (fun e => by cases e), fin false false ⟨rfl, rfl⟩⟩
  · exact ⟨b, true, (fun _ => hb), fin b true ⟨rfl, rfl⟩⟩
theorem wp_mapUpdate_pr {x y z : Operand} {r : Nat} {s : Nat × Nat} {b : Bool} (ho : o.op = .mapUpdate 85 x y z) (hx : a.eval x = .map (some r)) (hy : a.eval y = prV s) (hz : a.eval z = .bool b) (hM : PrMap w r R) (hs : R s b)
    (hK : ∀ w', PrMap w' r R → Upd r w w' → K (a.put o.dst undef) w') : o.wp Try.prog a w K Q := by
  obtain ⟨es, clock, h1, h2⟩ := hM
  obtain ⟨r0, h4, h5⟩ := run_findKey_pr s es.toList h2
  have um := Try.underlying85
  have hg := run_getObj_map Try.prog w r es clock h1
  have hlt : r < w.heap.size := (Array.getElem?_eq_some_iff.1 h1).1
  have hset : ∀ o', (setObj r o').run Try.prog w = .ok () { w with heap := w.heap.setIfInBounds r o' } := by
    intro o'; simp [setObj, Sem.run, h1]
  have fin : ∀ (es' : Array MapEntry) (c' : Nat), (∀ e ∈ es'.toList, ∃ x b, e.key = prV x ∧ e.val = .bool b ∧ R x b) → K (a.put o.dst undef) { w with heap := w.heap.setIfInBounds r (.map es' c') } := fun es' c' h =>
    hK _ ⟨es', c', by simp [hlt], h⟩ ⟨rfl, rfl, rfl, by simp, fun k hk => by simp [Ne.symm hk]⟩
  unfold Oper.wp execOp
  simp only [ho, hx, hy, hz, Instr.mapUpdate, Sem.run_bind, Sem.run_pure, run_underlying um, Result.andThen_ok, hg, run_checkKey_pr, h4]
  rcases h5 with rfl | ⟨j, b', rfl, hb, e, he, hk⟩
  · simp only [hset, Result.andThen_ok]
    refine fin _ _ (fun e he => ?_)
    simp only [Array.toList_push, List.mem_append, List.mem_singleton] at he
    rcases he with he | rfl
    · exact h2 e he
    · exact ⟨s, b, rfl, rfl, hs⟩
  · have hj : es[j]? = some e := by simpa using he
    simp only [hj, Option.map_some, Option.getD_some, hk, Sem.run_bind, stays_pr, Result.andThen_ok, hset]
    refine fin _ _ (fun e' he' => ?_)
    obtain ⟨i, hi, rfl⟩ := List.getElem_of_mem he'
    simp only [Array.getElem_toList, Array.getElem_modify]
    split
    · exact ⟨s, b, rfl, rfl, hs⟩
    · exact h2 _ (by simp)
/-- A new map. -/
def NewPrMap (R : Nat × Nat → Bool → Prop) (w : World) (v : Value) (w' : World) : Prop := ∃ g, v = .map (some g) ∧ w.heap.size = g ∧ PrMap w' g R ∧ Below w.heap.size w w' ∧ w'.heap.size = g + 1
theorem wp_makeMap_pr (ho : o.op = .makeMap 85 none) (hK : ∀ v w', NewPrMap R w v w' → K (a.put o.dst v) w') : o.wp Try.prog a w K Q := by
  have := hK (.map (some w.heap.size)) (w.alloc (.map #[] 0)) ⟨_, rfl, rfl, ⟨#[], 0, heap_alloc_new w _, fun e he => by simp at he⟩, balloc _ _, by simp⟩
  unfold Oper.wp execOp
  simp only [ho]
  go_simp
  exact this
end
section
variable {w w' : World} {r g : Nat} {R : Nat × Nat → Bool → Prop} {S : Nat → Prop}
theorem PrMap.lt (h : PrMap w r R) : r < w.heap.size := by
  obtain ⟨es, clock, h1, _⟩ := h
  exact (Array.getElem?_eq_some_iff.1 h1).1
theorem PrMap.chg (h : PrMap w r R) (hb : Chg S w w') (hr : ¬ S r) : PrMap w' r R := by
  obtain ⟨es, clock, h1, h2⟩ := h
  exact ⟨es, clock, (hb.block r (Array.getElem?_eq_some_iff.1 h1).1 hr).trans h1, h2⟩
theorem PrMap.below (h : PrMap w r R) (hb : Below w.heap.size w w') : PrMap w' r R := h.chg (S := fun _ => False) (.ofBelow hb) id
theorem PrMap.upd (h : PrMap w r R) (hu : Upd g w w') (hne : r ≠ g) : PrMap w' r R := h.chg (S := fun k => k = g) (.ofUpd hu rfl) hne
/-- What lies in cells lies in another block. -/
theorem PrMap.ne (h : PrMap w r R) {b o : Nat} {v : Value} (hc : w.cell? ⟨b, o, none⟩ = some v) : b ≠ r := by
  rintro rfl
  obtain ⟨es, clock, h1, _⟩ := h
  unfold World.cell? at hc
  simp only [h1] at hc
  cases hc
end
end Go.Proofs.Ytnokgjajcnhkkaa

/- Regions that draw their order: one in which a state is kept and some blocks may be written; one with two new blocks and the stores into them. -/
namespace Go.Proofs.Ytnokgjajcnhkkaa
open Go.RowKit Go
section
variable {P : Program} {ops : Array Oper}
/-- What an operation finds. -/
structure CtxK (ops : Array Oper) (l : List (Bool × Value)) (n : Fr) (K : Known) (w0 : World) (S : Nat → Prop) (I : World → Prop) (o : Oper) (a : Act) (w : World) : Prop where
 chg : Chg S w0 w
 inv : I w
 kn : Kn n K a
 dep : ∀ j d, depB ops o j d = true → valR l j (a.tmps.getD d undef)
def SoundK (P : Program) (ops : Array Oper) (Q : Exit → Act → World → Prop) (l : List (Bool × Value)) (n : Fr) (K : Known) (w0 : World) (S : Nat → Prop) (I : World → Prop) : Nat → List Oper → Prop
 | _, [] => True
 | i, o :: r => (∃ β, GuardIs (fun i v _ => valR l i v) o β ∧ (β = false → valR l i undef) ∧
   (β = true → ∀ a w, CtxK ops l n K w0 S I o a w → o.wp P a w (fun a' w' => ∃ v, a' = Act.put a o.dst v ∧ Chg S w0 w' ∧ I w' ∧ valR l i v) Q)) ∧ SoundK P ops Q l n K w0 S I (i + 1) r
theorem SoundK.gen {Q : Exit → Act → World → Prop} {l : List (Bool × Value)} {n : Fr} {K : Known} {w0 : World} {S : Nat → Prop} {I : World → Prop} : ∀ {lo : List Oper} {i : Nat}, SoundK P ops Q l n K w0 S I i lo →
  SoundFromG P ops Q [] (fun i v _ => valR l i v) (fun _ _ => True) (fun _ w => Chg S w0 w ∧ I w) n K i lo
 | [], _, _ => trivial
 | o :: r, i, ⟨⟨β, h1, h2, h3⟩, h4⟩ => by
  refine ⟨.inl ⟨rfl, β, h1, fun _ _ _ => rfl, fun e _ => h2 e, fun hβ a w vs C => ?_⟩, h4.gen⟩
  refine Oper.wpIn_mono ?_ (wpIn_of (h3 hβ a w ⟨C.now.1, C.now.2, C.kn, fun j d hj => C.dep j d hj rfl⟩) (by rintro a' w' h; first | (obtain ⟨v, rfl, _⟩ := h; exact put_defers _ _ _) | (obtain ⟨_, _, rfl, _⟩ := h; exact put_defers _ _ _) | (obtain ⟨rfl, _⟩ := h; exact put_defers _ _ _)))
  rintro a' w' ⟨v, rfl, hc, hi, hv⟩
  exact ⟨v, rfl, trivial, ⟨hc, hi⟩, hv⟩
theorem WC.optc {id : Nat} {dr : Bool} {Q : Exit → Act → World → Prop} {n : Fr} {K : Known} {w : World} (l : List (Bool × Value)) (K0 : Known) {S : Nat → Prop} {I : World → Prop} (hI : ∀ w w', Below w.heap.size w w' → I w → I w') (hi : I w)
  (hs : subK K0 K) (hclear : clearB ops K0 = true) (hm : P.follows .mixedOrders = true) (hB : opsB ops n.n = true)
  (h : SoundK P ops Q l n K0 w S I 0 ops.toList)
  (hQ : ∀ (a : Act) (w' : World), Kn n K0 a → Chg S w w' → I w' → (∀ i d, (ops[i]?).bind (·.dst) = some d → valR l i (a.tmps.getD d undef)) → Q .normal a w') :
  WC P n K w (.region id ops dr) Q := by
 refine WC.gen [] (fun i v _ => valR l i v) (fun _ _ => True) (fun _ w' => Chg S w w' ∧ I w') K0 hs hclear hm hB List.nodup_nil rfl (fun _ _ _ _ h _ => h) ?_ h.gen (fun a w' vs hk _ _ hG hu _ => hQ a w' hk hG.1 hG.2 (fun i d hd => hu i d hd rfl))
 cases dr with
 | true => exact ⟨.ofBelow (Below.refl _ _).drew, hI _ _ (Below.refl _ _).drew hi⟩
 | false => exact ⟨.refl _ _, hi⟩
end
/-! ### Two new blocks, two stores -/
section
variable {w0 w w' : World} {t1 t2 g : Nat} {z1 c1 z2 c2 : Array Value} {va vb vp vq : Option Value}
structure TwoS (w0 : World) (t1 : Nat) (z1 c1 : Array Value) (t2 : Nat) (z2 c2 : Array Value) (va vb vp vq : Option Value) (w : World) : Prop where
 below : Below w0.heap.size w0 w
 a : ∀ v, va = some v → ∃ g, v = .pointer (some ⟨g, 0, none⟩) ∧ w0.heap.size ≤ g ∧ Blk w g t1 (if vp.isSome then c1 else z1)
 b : ∀ v, vb = some v → ∃ g, v = .pointer (some ⟨g, 0, none⟩) ∧ w0.heap.size ≤ g ∧ Blk w g t2 (if vq.isSome then c2 else z2)
 ne : ∀ v u, va = some v → vb = some u → v ≠ u
 pa : va = none → vp = none
 qb : vb = none → vq = none
def TwoG (w0 : World) (t1 : Nat) (z1 c1 : Array Value) (t2 : Nat) (z2 c2 : Array Value) : List (Option Value) → World → Prop
 | [va, vb, vp, vq], w => TwoS w0 t1 z1 c1 t2 z2 c2 va vb vp vq w
 | _, _ => False
theorem TwoS.allocA (h : TwoS w0 t1 z1 c1 t2 z2 c2 none vb vp vq w) : TwoS w0 t1 z1 c1 t2 z2 c2 (some (.pointer (some ⟨w.heap.size, 0, none⟩))) vb vp vq (w.alloc (.cells z1 t1)) := by
 have hp := h.pa rfl
 subst hp
 refine ⟨bstep h.below (balloc _ _), fun v hv => ⟨_, (Option.some.inj hv).symm, h.below.size, Blk.new' rfl⟩, fun v hv => ?_, fun v u hv hu => ?_, fun e => (by cases e), h.qb⟩
 ·obtain ⟨g, h1, h2, h3⟩ := h.b v hv
  exact ⟨g, h1, h2, h3.below (balloc _ _)⟩
 ·obtain ⟨g, rfl, _, h3⟩ := h.b u hu
  obtain rfl := Option.some.inj hv
  have := h3.lt
  simp only [ne_eq, Value.pointer.injEq, Option.some.injEq, Addr.mk.injEq, and_true]
  omega
theorem TwoS.allocB (h : TwoS w0 t1 z1 c1 t2 z2 c2 va none vp vq w) : TwoS w0 t1 z1 c1 t2 z2 c2 va (some (.pointer (some ⟨w.heap.size, 0, none⟩))) vp vq (w.alloc (.cells z2 t2)) := by
 have hp := h.qb rfl
 subst hp
 refine ⟨bstep h.below (balloc _ _), fun v hv => ?_, fun v hv => ⟨_, (Option.some.inj hv).symm, h.below.size, Blk.new' rfl⟩, fun v u hv hu => ?_, h.pa, fun e => (by cases e)⟩
 ·obtain ⟨g, h1, h2, h3⟩ := h.a v hv
  exact ⟨g, h1, h2, h3.below (balloc _ _)⟩
 ·obtain ⟨g, rfl, _, h3⟩ := h.a v hv
  obtain rfl := Option.some.inj hu
  have := h3.lt
  simp only [ne_eq, Value.pointer.injEq, Option.some.injEq, Addr.mk.injEq, and_true]
  omega
theorem TwoS.storeA {q : Value} (h : TwoS w0 t1 z1 c1 t2 z2 c2 (some (.pointer (some ⟨g, 0, none⟩))) vb none vq w) (hu : Upd g w w') (hB : Blk w' g t1 c1) : TwoS w0 t1 z1 c1 t2 z2 c2 (some (.pointer (some ⟨g, 0, none⟩))) vb (some q) vq w' := by
 obtain ⟨g', e, h1, _⟩ := h.a _ rfl
 simp only [Value.pointer.injEq, Option.some.injEq, Addr.mk.injEq, and_true] at e
 subst e
 refine ⟨upd_below h.below hu h1, fun v hv => ⟨g, (Option.some.inj hv).symm, h1, by simpa using hB⟩, fun v hv => ?_, h.ne, fun e => (by cases e), h.qb⟩
 obtain ⟨g2, rfl, h2, h3⟩ := h.b v hv
 have := h.ne _ _ rfl hv
 simp only [ne_eq, Value.pointer.injEq, Option.some.injEq, Addr.mk.injEq, and_true] at this
 exact ⟨g2, rfl, h2, upd_blk h3 hu (fun e => this e.symm)⟩
theorem TwoS.storeB {q : Value} (h : TwoS w0 t1 z1 c1 t2 z2 c2 va (some (.pointer (some ⟨g, 0, none⟩))) vp none w) (hu : Upd g w w') (hB : Blk w' g t2 c2) : TwoS w0 t1 z1 c1 t2 z2 c2 va (some (.pointer (some ⟨g, 0, none⟩))) vp (some q) w' := by
 obtain ⟨g', e, h1, _⟩ := h.b _ rfl
 simp only [Value.pointer.injEq, Option.some.injEq, Addr.mk.injEq, and_true] at e
 subst e
 refine ⟨upd_below h.below hu h1, fun v hv => ?_, fun v hv => ⟨g, (Option.some.inj hv).symm, h1, by simpa using hB⟩, h.ne, h.pa, fun e => (by cases e)⟩
 obtain ⟨g2, rfl, h2, h3⟩ := h.a v hv
 have := h.ne _ _ hv rfl
 simp only [ne_eq, Value.pointer.injEq, Option.some.injEq, Addr.mk.injEq, and_true] at this
 exact ⟨g2, rfl, h2, upd_blk h3 hu this⟩
end
section
variable {P : Program} {ops : Array Oper}
structure CtxT (ops : Array Oper) (l : List (Bool × Value)) (chain : List Nat) (n : Fr) (K : Known) (w0 : World) (o : Oper) (a : Act) (w : World) : Prop where
 below : Below w0.heap.size w0 w
 kn : Kn n K a
 dep : ∀ j d, depB ops o j d = true → chain.contains j = false → valR l j (a.tmps.getD d undef)
def SoundT (P : Program) (ops : Array Oper) (Q : Exit → Act → World → Prop) (l : List (Bool × Value)) (n : Fr) (K : Known) (w0 : World) (t1 : Nat) (z1 c1 : Array Value) (t2 : Nat) (z2 c2 : Array Value) (ia ib ip iq : Nat) : Nat → List Oper → Prop
 | _, [] => True
 | i, o :: r => (([ia, ib, ip, iq].contains i = false ∧ o.guard = none ∧
    (∀ a w, CtxT ops l [ia, ib, ip, iq] n K w0 o a w → o.wp P a w (fun a' w' => ∃ v, a' = Act.put a o.dst v ∧ w' = w ∧ valR l i v) Q)) ∨
   (i = ia ∧ o.guard = none ∧ ∀ a w, CtxT ops l [ia, ib, ip, iq] n K w0 o a w → o.wp P a w (fun a' w' => a' = Act.put a o.dst (.pointer (some ⟨w.heap.size, 0, none⟩)) ∧ w' = w.alloc (.cells z1 t1)) Q) ∨
   (i = ib ∧ o.guard = none ∧ ∀ a w, CtxT ops l [ia, ib, ip, iq] n K w0 o a w → o.wp P a w (fun a' w' => a' = Act.put a o.dst (.pointer (some ⟨w.heap.size, 0, none⟩)) ∧ w' = w.alloc (.cells z2 t2)) Q) ∨
   (i = ip ∧ o.guard = none ∧ ∃ dp, depB ops o ia dp = true ∧ ∀ a w g, CtxT ops l [ia, ib, ip, iq] n K w0 o a w → a.tmps.getD dp undef = .pointer (some ⟨g, 0, none⟩) → Blk w g t1 z1 → o.wp P a w (fun a' w' => ∃ v, a' = Act.put a o.dst v ∧ Upd g w w' ∧ Blk w' g t1 c1) Q) ∨
   (i = iq ∧ o.guard = none ∧ ∃ dp, depB ops o ib dp = true ∧ ∀ a w g, CtxT ops l [ia, ib, ip, iq] n K w0 o a w → a.tmps.getD dp undef = .pointer (some ⟨g, 0, none⟩) → Blk w g t2 z2 → o.wp P a w (fun a' w' => ∃ v, a' = Act.put a o.dst v ∧ Upd g w w' ∧ Blk w' g t2 c2) Q)) ∧ SoundT P ops Q l n K w0 t1 z1 c1 t2 z2 c2 ia ib ip iq (i + 1) r
theorem SoundT.gen {Q : Exit → Act → World → Prop} {l : List (Bool × Value)} {n : Fr} {K : Known} {w0 : World} {t1 : Nat} {z1 c1 : Array Value} {t2 : Nat} {z2 c2 : Array Value} {ia ib ip iq : Nat} : ∀ {lo : List Oper} {i : Nat}, SoundT P ops Q l n K w0 t1 z1 c1 t2 z2 c2 ia ib ip iq i lo →
  SoundFromG P ops Q [ia, ib, ip, iq] (fun i v _ => valR l i v) (fun _ _ => True) (TwoG w0 t1 z1 c1 t2 z2 c2) n K i lo
 | [], _, _ => trivial
 | o :: r, i, ⟨h, hr⟩ => by
  refine ⟨?_, hr.gen⟩
  have mk : ∀ {a : Act} {w : World} {vs : List (Option Value)} (_ : CtxG ops [ia, ib, ip, iq] (fun i v _ => valR l i v) (TwoG w0 t1 z1 c1 t2 z2 c2) n K i o a w vs), CtxT ops l [ia, ib, ip, iq] n K w0 o a w := by
   intro a w vs C
   match vs, C.len, C.now with
   | [va, vb, vp, vq], _, hG => exact ⟨TwoS.below hG, C.kn, C.dep⟩
  rcases h with ⟨h1, h2, h3⟩ | ⟨rfl, h1, h2⟩ | ⟨rfl, h1, h2⟩ | ⟨rfl, h1, dp, h2, h3⟩ | ⟨rfl, h1, dp, h2, h3⟩
  ·refine .inl ⟨h1, true, .none h2, fun g b hb => by (rw [h2] at hb; cases hb), fun e => (by cases e), fun _ a w vs C => ?_⟩
   refine Oper.wpIn_mono ?_ (wpIn_of (h3 a w (mk C)) (by rintro a' w' h; first | (obtain ⟨v, rfl, _⟩ := h; exact put_defers _ _ _) | (obtain ⟨_, _, rfl, _⟩ := h; exact put_defers _ _ _) | (obtain ⟨rfl, _⟩ := h; exact put_defers _ _ _)))
   rintro a' w' ⟨v, rfl, rfl, hv⟩
   exact ⟨v, rfl, trivial, C.now, hv⟩
  ·refine .inr ⟨0, rfl, h1, fun a w vs C hn => ?_⟩
   refine Oper.wpIn_mono ?_ (wpIn_of (h2 a w (mk C)) (by rintro a' w' h; first | (obtain ⟨v, rfl, _⟩ := h; exact put_defers _ _ _) | (obtain ⟨_, _, rfl, _⟩ := h; exact put_defers _ _ _) | (obtain ⟨rfl, _⟩ := h; exact put_defers _ _ _)))
   rintro a' w' ⟨rfl, rfl⟩
   match vs, C.len, hn, C.now with
   | [va, vb, vp, vq], _, hn, hG =>
    simp only [List.getElem?_cons_zero, Option.some.injEq] at hn
    subst hn
    exact ⟨_, rfl, trivial, TwoS.allocA hG⟩
  ·refine .inr ⟨1, rfl, h1, fun a w vs C hn => ?_⟩
   refine Oper.wpIn_mono ?_ (wpIn_of (h2 a w (mk C)) (by rintro a' w' h; first | (obtain ⟨v, rfl, _⟩ := h; exact put_defers _ _ _) | (obtain ⟨_, _, rfl, _⟩ := h; exact put_defers _ _ _) | (obtain ⟨rfl, _⟩ := h; exact put_defers _ _ _)))
   rintro a' w' ⟨rfl, rfl⟩
   match vs, C.len, hn, C.now with
   | [va, vb, vp, vq], _, hn, hG =>
    simp only [List.getElem?_cons_zero, List.getElem?_cons_succ, Option.some.injEq] at hn
    subst hn
    exact ⟨_, rfl, trivial, TwoS.allocB hG⟩
  ·refine .inr ⟨2, rfl, h1, fun a w vs C hn => ?_⟩
   have e0 := C.link 0 ia dp rfl h2
   match vs, C.len, hn, e0, C.now, C with
   | [va, vb, vp, vq], _, hn, e0, hG, C =>
    simp only [List.getElem?_cons_zero, List.getElem?_cons_succ, Option.some.injEq] at hn e0
    subst hn e0
    obtain ⟨g, h5, _, h6⟩ := TwoS.a hG _ rfl
    refine Oper.wpIn_mono ?_ (wpIn_of (h3 a w g (mk C) h5 (by simpa using h6)) (by rintro a' w' h; first | (obtain ⟨v, rfl, _⟩ := h; exact put_defers _ _ _) | (obtain ⟨_, _, rfl, _⟩ := h; exact put_defers _ _ _) | (obtain ⟨rfl, _⟩ := h; exact put_defers _ _ _)))
    rintro a' w' ⟨v, rfl, h7, h8⟩
    have hG' : TwoS w0 t1 z1 c1 t2 z2 c2 (some (a.tmps.getD dp undef)) vb none vq w := hG
    rw [h5] at hG'
    refine ⟨v, rfl, trivial, ?_⟩
    show TwoS w0 t1 z1 c1 t2 z2 c2 (some (a.tmps.getD dp undef)) vb (some v) vq w'
    rw [h5]
    exact TwoS.storeA hG' h7 h8
  ·refine .inr ⟨3, rfl, h1, fun a w vs C hn => ?_⟩
   have e0 := C.link 1 ib dp rfl h2
   match vs, C.len, hn, e0, C.now, C with
   | [va, vb, vp, vq], _, hn, e0, hG, C =>
    simp only [List.getElem?_cons_zero, List.getElem?_cons_succ, Option.some.injEq] at hn e0
    subst hn e0
    obtain ⟨g, h5, _, h6⟩ := TwoS.b hG _ rfl
    refine Oper.wpIn_mono ?_ (wpIn_of (h3 a w g (mk C) h5 (by simpa using h6)) (by rintro a' w' h; first | (obtain ⟨v, rfl, _⟩ := h; exact put_defers _ _ _) | (obtain ⟨_, _, rfl, _⟩ := h; exact put_defers _ _ _) | (obtain ⟨rfl, _⟩ := h; exact put_defers _ _ _)))
    rintro a' w' ⟨v, rfl, h7, h8⟩
    have hG' : TwoS w0 t1 z1 c1 t2 z2 c2 va (some (a.tmps.getD dp undef)) vp none w := hG
    rw [h5] at hG'
    refine ⟨v, rfl, trivial, ?_⟩
    show TwoS w0 t1 z1 c1 t2 z2 c2 va (some (a.tmps.getD dp undef)) vp (some v) w'
    rw [h5]
    exact TwoS.storeB hG' h7 h8
theorem WC.two {id : Nat} {dr : Bool} {Q : Exit → Act → World → Prop} {n : Fr} {K : Known} {w : World} (l : List (Bool × Value)) (K0 : Known) {t1 : Nat} {z1 c1 : Array Value} {t2 : Nat} {z2 c2 : Array Value} (ia ib ip iq da db : Nat)
  (hd : ([ia, ib, ip, iq]).Nodup) (hin : (([ia, ib, ip, iq]).all fun c => Nat.blt c ops.size) = true) (hda : (ops[ia]?).bind (·.dst) = some da) (hdb : (ops[ib]?).bind (·.dst) = some db)
  (hs : subK K0 K) (hclear : clearB ops K0 = true) (hm : P.follows .mixedOrders = true) (hB : opsB ops n.n = true)
  (h : SoundT P ops Q l n K0 w t1 z1 c1 t2 z2 c2 ia ib ip iq 0 ops.toList)
  (hQ : ∀ (a : Act) (w' : World) (g1 g2 : Nat), Kn n K0 a → Below w.heap.size w w' → w.heap.size ≤ g1 → w.heap.size ≤ g2 → g1 ≠ g2 → Blk w' g1 t1 c1 → Blk w' g2 t2 c2 → a.tmps.getD da undef = .pointer (some ⟨g1, 0, none⟩) → a.tmps.getD db undef = .pointer (some ⟨g2, 0, none⟩) → (∀ i d, (ops[i]?).bind (·.dst) = some d → ([ia, ib, ip, iq]).contains i = false → valR l i (a.tmps.getD d undef)) → Q .normal a w') :
  WC P n K w (.region id ops dr) Q := by
 refine WC.gen [ia, ib, ip, iq] (fun i v _ => valR l i v) (fun _ _ => True) (TwoG w t1 z1 c1 t2 z2 c2) K0 hs hclear hm hB hd hin (fun _ _ _ _ h _ => h) ?_ h.gen (fun a w' vs hk hlen hall hG hu hl => ?_)
 ·have st : ∀ w' : World, Below w.heap.size w w' → TwoS w t1 z1 c1 t2 z2 c2 none none none none w' := fun w' hb => ⟨hb, fun v hv => (by cases hv), fun v hv => (by cases hv), fun v u hv => (by cases hv), fun _ => rfl, fun _ => rfl⟩
  cases dr with
  | true => exact st _ (Below.refl _ _).drew
  | false => exact st _ (Below.refl _ _)
 ·obtain ⟨v0, hv0⟩ := hall 0 (by simp)
  obtain ⟨v1, hv1⟩ := hall 1 (by simp)
  obtain ⟨v2, hv2⟩ := hall 2 (by simp)
  obtain ⟨v3, hv3⟩ := hall 3 (by simp)
  have ha := hl 0 ia da rfl hda
  have hb := hl 1 ib db rfl hdb
  match vs, hlen, hv0, hv1, hv2, hv3, hG, ha, hb with
  | [va, vb, vp, vq], _, hv0, hv1, hv2, hv3, hG, ha, hb =>
   simp only [List.getElem?_cons_zero, List.getElem?_cons_succ, Option.some.injEq] at hv0 hv1 hv2 hv3 ha hb
   subst hv2 hv3 ha hb
   obtain ⟨g1, e1, h1, h2⟩ := TwoS.a hG _ rfl
   obtain ⟨g2, e2, h3, h4⟩ := TwoS.b hG _ rfl
   have hne := TwoS.ne hG _ _ rfl rfl
   rw [e1, e2] at hne
   simp only [ne_eq, Value.pointer.injEq, Option.some.injEq, Addr.mk.injEq, and_true] at hne
   exact hQ a w' g1 g2 hk (TwoS.below hG) h1 h3 hne (by simpa using h2) (by simpa using h4) e1 e2 hu
end
end Go.Proofs.Ytnokgjajcnhkkaa

/- Two terms laid out, what was found of their parts: how it lies in memory. -/
namespace Go.Proofs.Ytnokgjajcnhkkaa
open Go.RowKit Go
/-- A row of parts, cell by cell. -/
structure NdRow (w0 : World) (L : List Nd) (b : Nat) (A X : Nat → Option Addr) (C Z xb : Nat → Nat) (w : World) : Prop where
  c0 : ∀ k, k < L.length → w.cell? ⟨b, 0 + k * 3, none⟩ = some (.int .i64 (ndget L k).t.f)
  c1 : ∀ k, k < L.length → w.cell? ⟨b, 0 + k * 3 + 1, none⟩ = some (.slice (A k) (ndget L k).t.args.length (C k))
  c2 : ∀ k, k < L.length → w.cell? ⟨b, 0 + k * 3 + 2, none⟩ = some (.slice (X k) (ndget L k).args.length (Z k))
  t : ∀ k, k < L.length → IsT w0 (ndget L k).t (.agg #[.int .i64 (ndget L k).t.f, .slice (A k) (ndget L k).t.args.length (C k)])
  x : ∀ k j, k < L.length → j < (ndget L k).args.length → X k = some ⟨xb k, 0, none⟩ ∧ w.cell? ⟨xb k, 0 + j, none⟩ = some (.int .i64 (((ndget L k).args.getD j 0 : Nat) : Int))
theorem NdRow.keep {w0 w w' : World} {L : List Nd} {b : Nat} {A X : Nat → Option Addr} {C Z xb : Nat → Nat} (h : NdRow w0 L b A X C Z xb w) (hk : ∀ b i v, w.cell? ⟨b, i, none⟩ = some v → w'.cell? ⟨b, i, none⟩ = some v) : NdRow w0 L b A X C Z xb w' :=
  ⟨fun k h1 => hk _ _ _ (h.c0 k h1), fun k h1 => hk _ _ _ (h.c1 k h1), fun k h1 => hk _ _ _ (h.c2 k h1), h.t, fun k j h1 h2 => ⟨(h.x k j h1 h2).1, hk _ _ _ (h.x k j h1 h2).2⟩⟩
theorem NdRow.of {w0 w : World} {N S : Nat → Prop} {E b rc n : Nat} {L : List Nd} {xs : List Value} (h : NdsAt w0 w N L xs) (hO : Own w S E 3 (some ⟨b, 0, none⟩) rc n xs) : ∃ (A X : Nat → Option Addr) (C Z xb : Nat → Nat), NdRow w0 L b A X C Z xb w := by
  have key : ∀ k, k < L.length → ∃ p : Option Addr × Nat × Option Addr × Nat × Nat, xs[k * 3]? = some (.int .i64 (ndget L k).t.f) ∧ xs[k * 3 + 1]? = some (.slice p.1 (ndget L k).t.args.length p.2.1) ∧ xs[k * 3 + 2]? = some (.slice p.2.2.1 (ndget L k).args.length p.2.2.2.1) ∧
      IsT w0 (ndget L k).t (.agg #[.int .i64 (ndget L k).t.f, .slice p.1 (ndget L k).t.args.length p.2.1]) ∧ ∀ j, j < (ndget L k).args.length → p.2.2.1 = some ⟨p.2.2.2.2, 0, none⟩ ∧ w.cell? ⟨p.2.2.2.2, 0 + j, none⟩ = some (.int .i64 (((ndget L k).args.getD j 0 : Nat) : Int)) := by
    intro k hk
    obtain ⟨A, C, X, Z, e1, e2, e3, e4, e5⟩ := h.at_ k hk
    rcases e5 with e5 | ⟨g, e5, _, _, e6⟩
    · exact ⟨(A, C, X, Z, 0), e1, e2, e3, e4, fun j hj => by rw [e5] at hj; simp at hj⟩
    · exact ⟨(A, C, X, Z, g), e1, e2, e3, e4, fun j hj => ⟨e5, by rw [Nat.zero_add]; exact e6 j hj⟩⟩
  have : Inhabited (Option Addr × Nat × Option Addr × Nat × Nat) := ⟨(none, 0, none, 0, 0)⟩
  obtain ⟨F, hF⟩ := Go.Deep.choose_lt key
  refine ⟨fun k => (F k).1, fun k => (F k).2.2.1, fun k => (F k).2.1, fun k => (F k).2.2.2.1, fun k => (F k).2.2.2.2, fun k hk => ?_, fun k hk => ?_, fun k hk => ?_, fun k hk => (hF k hk).2.2.2.1, fun k j hk hj => (hF k hk).2.2.2.2 j hj⟩
  · rw [Nat.zero_add]; exact own_cell hO (hF k hk).1
  · rw [Nat.zero_add]; exact own_cell hO (hF k hk).2.1
  · rw [Nat.zero_add]; exact own_cell hO (hF k hk).2.2.1
/-- The addresses. -/
structure LpoQ where
  gw : Nat
  gm : Nat
  b1 : Nat
  b2 : Nat
  r1 : Nat
  r2 : Nat
  A1 : Nat → Option Addr
  A2 : Nat → Option Addr
  X1 : Nat → Option Addr
  X2 : Nat → Option Addr
  C1 : Nat → Nat
  C2 : Nat → Nat
  Z1 : Nat → Nat
  Z2 : Nat → Nat
  x1 : Nat → Nat
  x2 : Nat → Nat
  p1 : Option Addr
  p2 : Option Addr
  k1 : Nat
  k2 : Nat
/-- What is known of the two rows. -/
structure LpoH (o : Od) (L1 L2 : List Nd) : Prop where
  g1 : ∀ k, k < L1.length → GoodAt L1 k
  g2 : ∀ k, k < L2.length → GoodAt L2 k
  k1 : ∀ k, k < L1.length → o.lknows (ndget L1 k).t = true
  k2 : ∀ k, k < L2.length → o.lknows (ndget L2 k).t = true
  z1 : ∀ k, k < L1.length → (ndget L1 k).t.size ≤ 4294967296
  z2 : ∀ k, k < L2.length → (ndget L2 k).t.size ≤ 4294967296
theorem args_le (t : T) : t.args.length < t.size := by
  have h : ∀ l : List T, l.length ≤ T.sizeL l := by
    intro l
    induction l with
    | nil => simp
    | cons a r ih =>
      have := T.size_eq a
      rw [T.sizeL, List.length_cons]; omega
  have := T.size_eq t
  have := h t.args
  omega
theorem nd_child {L : List Nd} {k j : Nat} (h : GoodAt L k) (hj : j < (ndget L k).t.args.length) : (ndget L k).args.getD j 0 < L.length ∧ (ndget L ((ndget L k).args.getD j 0)).t = tget (ndget L k).t.args j := by
  have := h.2 j hj
  rw [tget_lt hj]; exact this
/-- What was found is right. -/
def LpoR (o : Od) (L1 L2 : List Nd) (x : Nat × Nat) (b : Bool) : Prop := b = o.lg (ndget L1 x.1).t (ndget L2 x.2).t
structure LpoSt (o : Od) (L1 L2 : List Nd) (q : LpoQ) (w0 w : World) : Prop where
  below : Below w0.heap.size w0 w
  prec : IsInts w0 o.prec q.p1
  n1 : NdRow w0 L1 q.b1 q.A1 q.X1 q.C1 q.Z1 q.x1 w
  n2 : NdRow w0 L2 q.b2 q.A2 q.X2 q.C2 q.Z2 q.x2 w
  map : PrMap w q.gm (LpoR o L1 L2)
  blk : Blk w q.gw 87 #[.bool o.lpo, .slice q.p1 o.prec.length q.k1, .slice q.p2 o.weights.length q.k2, .int .i64 o.var, .slice (some ⟨q.b1, 0, none⟩) L1.length q.r1, .slice (some ⟨q.b2, 0, none⟩) L2.length q.r2, .map (some q.gm)]
  hgm : w0.heap.size ≤ q.gm
section
variable {o : Od} {L1 L2 : List Nd} {q : LpoQ} {w0 w w' : World}
theorem LpoSt.step (h : LpoSt o L1 L2 q w0 w) (hc : Chg (fun b => b = q.gm) w w') (hm : PrMap w' q.gm (LpoR o L1 L2)) : LpoSt o L1 L2 q w0 w' := by
  have hk : ∀ b i v, w.cell? ⟨b, i, none⟩ = some v → w'.cell? ⟨b, i, none⟩ = some v := fun b i v hv => chg_cell hc (h.map.ne hv) hv
  have hg := h.hgm
  exact ⟨chg_below h.below hc (fun b hb => by omega), h.prec, h.n1.keep hk, h.n2.keep hk, hm, chg_blk h.blk hc (h.map.ne (h.blk.cell 0)), hg⟩
theorem LpoSt.bel (h : LpoSt o L1 L2 q w0 w) (hb : Below w.heap.size w w') : LpoSt o L1 L2 q w0 w' := h.step (.ofBelow hb) (h.map.below hb)
theorem LpoSt.glt (h : LpoSt o L1 L2 q w0 w) : q.gm < w.heap.size ∧ q.gw < w.heap.size ∧ q.gw ≠ q.gm ∧ w0.heap.size ≤ w.heap.size := ⟨h.map.lt, h.blk.lt, h.map.ne (h.blk.cell 0), h.below.size⟩
end
/-- To so many parts, above tells what is right. -/
def AboveOK (o : Od) (L1 L2 : List Nd) (q : LpoQ) (w0 : World) (n : Nat) : Prop :=
  ∀ (i k : Nat) (w : World), i < L1.length → k < L2.length → (ndget L1 i).t.size + (ndget L2 k).t.size ≤ n → LpoSt o L1 L2 q w0 w →
    Calls Try.prog 59 #[.pointer (some ⟨q.gw, 0, none⟩), .int .i64 (i : Int), .int .i64 (k : Int)] w (Ret fun v' w' => v' = .bool (o.lg (ndget L1 i).t (ndget L2 k).t) ∧ LpoSt o L1 L2 q w0 w' ∧ Chg (fun b => b = q.gm) w w')
end Go.Proofs.Ytnokgjajcnhkkaa

/- What an order knows, whether a top stands in a term: the walks. -/
namespace Go.Proofs.Ytnokgjajcnhkkaa
open Go.RowKit Go
set_option linter.unusedVariables false
set_option linter.unusedSimpArgs false
theorem all_take_t (p : T → Bool) (l : List T) (k : Nat) (h : k < l.length) : (l.take (k + 1)).all p = ((l.take k).all p && p (tget l k)) := by
 rw [List.take_succ_eq_append_getElem h, List.all_append, tget_lt h]; simp
theorem any_take_t (p : T → Bool) (l : List T) (k : Nat) (h : k < l.length) : (l.take (k + 1)).any p = ((l.take k).any p || p (tget l k)) := by
 rw [List.take_succ_eq_append_getElem h, List.any_append, tget_lt h]; simp
theorem lk1 {o : Od} {f : Int} {l : List T} (h : f < 0) : (((l.length : Nat) : Int) == (0 : Int)) = o.lknows (.mk f l) := by
 rw [Od.lknows, if_pos h]; cases l <;> simp; omega
theorem lk2 {o : Od} {f : Int} {l : List T} (h : ¬ f < 0) (h' : ((o.prec.length : Nat) : Int) ≤ f) : false = o.lknows (.mk f l) := by
 rw [Od.lknows, if_neg h]; simp; omega
theorem lk3 {o : Od} {f : Int} {l : List T} {k : Nat} (h : ¬ f < 0) (hk : k < l.length) (hx : ¬ o.lknows (tget l k) = true) : false = o.lknows (.mk f l) := by
 rw [Od.lknows, if_neg h, Od.lknowsL_all]
 have : l.all o.lknows = false := by rw [List.all_eq_false]; exact ⟨tget l k, tget_mem hk, hx⟩
 rw [this]; simp
theorem lk4 {o : Od} {f : Int} {l : List T} {k : Nat} (h : ¬ f < 0) (h' : ¬ ((o.prec.length : Nat) : Int) ≤ f) (hall : (l.take k).all o.lknows = true) (hk : ¬ k < l.length) : true = o.lknows (.mk f l) := by
 rw [Od.lknows, if_neg h, Od.lknowsL_all]
 rw [List.take_of_length_le (by omega)] at hall
 rw [hall]; simp; omega
theorem hs1 {f : Int} {l : List T} : true = T.has f (.mk f l) := by rw [T.has]; simp
theorem hs2 {f g : Int} {l : List T} {k : Nat} (hk : k < l.length) (hx : T.has f (tget l k) = true) : true = T.has f (.mk g l) := by
 rw [T.has, T.hasL_any, List.any_eq_true.2 ⟨_, tget_mem hk, hx⟩]; simp
set_option maxRecDepth 100000 in
theorem lknows_any (o : Od) (t : T) : ∀ (w : World) (vo v : Value), IsOd w o vo → IsT w t v →
  Calls Try.prog 52 #[vo, v] w (Ret fun v' w' => v' = .bool (o.lknows t) ∧ Below w.heap.size w w') := by
 induction t using T.ind with
 | h f l ih =>
 intro w vo v ho hv
 have ho0 := ho
 have hv0 := hv
 obtain ⟨a1, a2, c1, c2, rfl, n1, n2, n3, n4, p1, p2, _⟩ := ho
 obtain ⟨hf, a, c, rfl, hc, hm, hl⟩ := hv
 unfold maxLen at hm n2 n4
 have hf1 := hf.1
 have hf2 := hf.2
 refine Calls.walk (l := [.agg #[.bool o.lpo, .slice a1 o.prec.length c1, .slice a2 o.weights.length c2, .int .i64 o.var], .agg #[.int .i64 f, .slice a l.length c]]) Try.func52 rfl (by kernel_rfl) ?_
 refine WC.sub (K' := [(0, .agg #[.bool o.lpo, .slice a1 o.prec.length c1, .slice a2 o.weights.length c2, .int .i64 o.var]), (1, .agg #[.int .i64 f, .slice a l.length c])]) ⟨rfl, rfl, trivial⟩ ?_
 refine WC.seq (WC.region ?_)
 refine WL.step (post := NewBlk w 24 #[.bool o.lpo, .slice a1 o.prec.length c1, .slice a2 o.weights.length c2, .int .i64 o.var]) rfl rfl rfl (fun za zC zh zk => box_24 rfl (zh.ev rfl) (zk _ _ (newBlk _ _ _))) ?_
 rintro _ w1 ⟨g2, rfl, hg3, hB4, hb5, hz6⟩
 have hl7 : w.heap.size ≤ g2 := by omega
 refine WL.step (post := NewBlk w1 34 #[.int .i64 f, .slice a l.length c]) rfl rfl rfl (fun za zC zh zk => box_34 rfl (zh.ev rfl) (zk _ _ (newBlk _ _ _))) ?_
 rintro _ w8 ⟨g9, rfl, hg10, hB11, hb12, hz13⟩
 have hl14 : g2 < g9 := by have z1 := hB4.lt; omega
 have hl15 : w.heap.size ≤ g9 := by have z2 := (hb5).size; omega
 refine WL.asg rfl rfl rfl rfl rfl (WL.nil (WE.next (WC.seq (WC.seq (WC.region ?_)))))
 refine WL.val _ rfl rfl rfl (fun za zC zh zk => fld_34_0 rfl (zh.ev rfl) zk) ?_
 refine WL.val _ rfl rfl rfl (fun za zC zh zk => ld_3 rfl (zh.ev rfl) ((hB11.cell 0).trans rfl) zk) ?_
 refine WL.val (.bool ((decide ((f : Int) < (0 : Int))))) rfl rfl rfl (fun za zC zh zk => lss_3 rfl (zh.ev rfl) (zh.ev rfl) zk) ?_
 refine WL.nil (WE.next ?_)
 refine WC.cond rfl (fun h16 => ?_) (fun h16 => ?_)
 ·have h16 : (f : Int) < (0 : Int) := by simpa using h16
  refine WC.seq (WC.region ?_)
  refine WL.val _ rfl rfl rfl (fun za zC zh zk => fld_34_1 rfl (zh.ev rfl) zk) ?_
  refine WL.val _ rfl rfl rfl (fun za zC zh zk => ld_32 rfl (zh.ev rfl) ((hB11.cell 1).trans rfl) zk) ?_
  refine WL.val (.int .i64 (((l.length : Nat) : Int))) rfl rfl rfl (fun za zC zh zk => len_32 rfl (zh.ev rfl) zk) ?_
  refine WL.val (.bool (((((l.length : Nat) : Int) : Int) == (0 : Int)))) rfl rfl rfl (fun za zC zh zk => eql_3 rfl (zh.ev rfl) (zh.ev rfl) zk) ?_
  refine WL.asg rfl rfl rfl rfl rfl (WL.nil (WE.next (WC.ret (WE.thenRet (WE.ret1 rfl rfl ?_)))))
  have hb17 : Below w.heap.size w w8 := (bstep hb5 hb12)
  exact ⟨_, rfl, congrArg Value.bool (by first | exact lk1 (by omega) | exact lk2 (by omega) (by omega) | exact lk3 (k := k) (by omega) (by omega) (by assumption) | exact lk4 (k := k) (by omega) (by omega) hall (by omega)), hb17⟩
 ·have h16 : ¬ ((f : Int) < (0 : Int)) := by simpa using h16
  refine WC.skip (WE.next (WC.seq (WC.seq (WC.region ?_))))
  refine WL.val _ rfl rfl rfl (fun za zC zh zk => fld_34_0 rfl (zh.ev rfl) zk) ?_
  refine WL.val _ rfl rfl rfl (fun za zC zh zk => ld_3 rfl (zh.ev rfl) ((hB11.cell 0).trans rfl) zk) ?_
  refine WL.val _ rfl rfl rfl (fun za zC zh zk => fld_24_1 rfl (zh.ev rfl) zk) ?_
  have hB18 := hB4.below hb12
  refine WL.val _ rfl rfl rfl (fun za zC zh zk => ld_22 rfl (zh.ev rfl) ((hB18.cell 1).trans rfl) zk) ?_
  refine WL.val (.int .i64 (((o.prec.length : Nat) : Int))) rfl rfl rfl (fun za zC zh zk => len_22 rfl (zh.ev rfl) zk) ?_
  refine WL.val (.bool ((decide ((((o.prec.length : Nat) : Int) : Int) ≤ (f : Int))))) rfl rfl rfl (fun za zC zh zk => geq_3 rfl (zh.ev rfl) (zh.ev rfl) zk) ?_
  refine WL.nil (WE.next ?_)
  refine WC.cond rfl (fun h19 => ?_) (fun h19 => ?_)
  ·have h19 : (((o.prec.length : Nat) : Int) : Int) ≤ (f : Int) := by simpa using h19
   refine WC.seq (WC.region (WL.asg rfl rfl rfl rfl rfl (WL.nil (WE.next (WC.ret (WE.thenRet (WE.ret1 rfl rfl ?_)))))))
   have hb20 : Below w.heap.size w w8 := (bstep hb5 hb12)
   exact ⟨_, rfl, congrArg Value.bool (by first | exact lk1 (by omega) | exact lk2 (by omega) (by omega) | exact lk3 (k := k) (by omega) (by omega) (by assumption) | exact lk4 (k := k) (by omega) (by omega) hall (by omega)), hb20⟩
  ·have h19 : ¬ ((((o.prec.length : Nat) : Int) : Int) ≤ (f : Int)) := by simpa using h19
   refine WC.skip (WE.next (WC.seq (WC.seq (WC.region ?_))))
   refine WL.val _ rfl rfl rfl (fun za zC zh zk => fld_34_1 rfl (zh.ev rfl) zk) ?_
   refine WL.val _ rfl rfl rfl (fun za zC zh zk => ld_32 rfl (zh.ev rfl) ((hB11.cell 1).trans rfl) zk) ?_
   refine WL.val (.int .i64 (((l.length : Nat) : Int))) rfl rfl rfl (fun za zC zh zk => len_32 rfl (zh.ev rfl) zk) ?_
   refine WL.mv rfl rfl rfl rfl rfl (WL.nil (WE.next (WC.block ?_)))
   refine WC.loop (X := Nat) (fun k => l.length - k) (fun k => [(0, .agg #[.bool o.lpo, .slice a1 o.prec.length c1, .slice a2 o.weights.length c2, .int .i64 o.var]), (1, .agg #[.int .i64 f, .slice a l.length c]), (2, .pointer (some ⟨g2, 0, none⟩)), (3, .pointer (some ⟨g9, 0, none⟩)), (9, .bool ((decide ((f : Int) < (0 : Int))))), (19, .bool ((decide ((((o.prec.length : Nat) : Int) : Int) ≤ (f : Int))))), (21, .slice a l.length c), (22, .int .i64 (((l.length : Nat) : Int))), (23, .int .i64 (((k : Nat) : Int)))]) (fun k w21 => k ≤ l.length ∧ (l.take k).all o.lknows = true ∧ Below w.heap.size w w21 ∧ Blk w21 g2 24 #[.bool o.lpo, .slice a1 o.prec.length c1, .slice a2 o.weights.length c2, .int .i64 o.var] ∧ Blk w21 g9 34 #[.int .i64 f, .slice a l.length c]) 0 ⟨rfl, rfl, rfl, rfl, rfl, rfl, rfl, rfl, rfl, trivial⟩ ?_ ?_
   ·have hb22 : Below w.heap.size w w8 := (bstep hb5 hb12)
    exact ⟨Nat.zero_le _, rfl, hb22, hB18, hB11⟩
   ·rintro k w21 ⟨hk, hall, hb23, hB24, hB25⟩
    refine WC.seq (WC.region ?_)
    refine WL.val (.bool ((decide ((((k : Nat) : Int) : Int) < (((l.length : Nat) : Int) : Int))))) rfl rfl rfl (fun za zC zh zk => lss_3 rfl (zh.ev rfl) (zh.ev rfl) zk) ?_
    refine WL.nil (WE.next (WC.seq ?_))
    refine WC.cond rfl (fun h26 => ?_) (fun h26 => ?_)
    ·have h26 : (((k : Nat) : Int) : Int) < (((l.length : Nat) : Int) : Int) := by simpa using h26
     refine WC.skip (WE.next (WC.seq (WC.block (WC.seq (WC.region ?_)))))
     obtain ⟨b27, o28, A29, C30, ha31, hc32⟩ := IsTs.open hl
     refine WL.val _ rfl rfl rfl (fun za zC zh zk => ix_32 (k := k) rfl (zh.ev rfl) (ha31 k (by first | omega | (simp; omega))) (zh.ev rfl) (by first | omega | (simp; omega)) zk) ?_
     refine WL.val _ rfl rfl rfl (fun za zC zh zk => ld_34 rfl (zh.ev rfl) (bkeeps hb23 _ _ (hc32 k (by first | omega | (simp; omega))).1) (bkeeps hb23 _ _ (hc32 k (by first | omega | (simp; omega))).2.1) zk) ?_
     refine WL.step (post := NewBlk w21 34 #[.int .i64 0, .slice none 0 0]) rfl rfl rfl (fun za zC zh zk => alloc_34 rfl (zk _ _ (newBlk _ _ _))) ?_
     rintro _ w33 ⟨g34, rfl, hg35, hB36, hb37, hz38⟩
     have hl39 : g2 < g34 := by have z1 := hB24.lt; omega
     have hl40 : g9 < g34 := by have z1 := hB25.lt; omega
     have hl41 : w.heap.size ≤ g34 := by have z2 := (hb23).size; omega
     refine WL.step (post := fun _ w' => Upd g34 w33 w' ∧ Blk w' g34 34 #[.int .i64 ((tget l k).f), .slice ((A29 k)) ((tget l k).args.length) ((C30 k))]) rfl rfl rfl (fun za zC zh zk => st_34 rfl (zh.ev rfl) (zh.ev rfl) rfl rfl hB36 (by first | decide | simp) (fun v => zk v _ ⟨(Upd.at_ _ _ _ _).trans (Upd.at_ _ _ _ _), (hB36.set_ 0 _).set_ 1 _⟩)) ?_
     rintro v45 w42 ⟨hu43, hB44⟩
     have hb46 : Below w.heap.size w w33 := (bstep hb23 hb37)
     have hb47 := upd_below hb46 hu43 (by omega)
     have hB48 := hB24.below hb37
     have hB49 := upd_blk hB48 hu43 (by omega)
     have hB50 := hB25.below hb37
     have hB51 := upd_blk hB50 hu43 (by omega)
     refine WL.nil (WE.next (WC.seq (WC.region ?_)))
     refine WL.val _ rfl rfl rfl (fun za zC zh zk => ld_24 rfl (zh.ev rfl) ((hB49.cell 0).trans rfl) ((hB49.cell 1).trans rfl) ((hB49.cell 2).trans rfl) ((hB49.cell 3).trans rfl) zk) ?_
     refine WL.val _ rfl rfl rfl (fun za zC zh zk => ld_34 rfl (zh.ev rfl) ((hB44.cell 0).trans rfl) ((hB44.cell 1).trans rfl) zk) ?_
     refine WL.call rfl rfl rfl (fun za zh zC => wp_call (by kernel_rfl) rfl (hv2 (zh.ev rfl) (zh.ev rfl))) (ih (tget l k) (tget_mem (by omega)) _ _ _ (ho0.below hb47) (IsT.below hb47 (hc32 k (by first | omega | (simp; omega))).2.2)) ?_
     rintro _ w52 ⟨rfl, hbc⟩
     refine WL.val (.bool ((!(o.lknows (tget l k))))) rfl rfl rfl (fun za zC zh zk => wp_not rfl (zh.ev rfl) zk) ?_
     refine WL.nil (WE.next ?_)
     refine WC.cond rfl (fun h53 => ?_) (fun h53 => ?_)
     ·have h53 : ¬ ((o.lknows (tget l k)) = true) := by simpa using h53
      refine WC.seq (WC.region (WL.asg rfl rfl rfl rfl rfl (WL.nil (WE.next (WC.ret (WE.blockRet (WE.thenRet (WE.thenRet (WE.blockRet (WE.thenRet (WE.ret1 rfl rfl ?_)))))))))))
      have hb54 : Below w.heap.size w w52 := (bstep hb47 hbc)
      exact ⟨_, rfl, congrArg Value.bool (by first | exact lk1 (by omega) | exact lk2 (by omega) (by omega) | exact lk3 (k := k) (by omega) (by omega) (by assumption) | exact lk4 (k := k) (by omega) (by omega) hall (by omega)), hb54⟩
     ·have h53 : ¬ (¬ ((o.lknows (tget l k)) = true)) := by simpa using h53
      refine WC.skip (WE.blockNormal (WE.next (WC.region ?_)))
      refine WL.val (.int .i64 ((((k + 1) : Nat) : Int))) rfl rfl rfl (fun za zC zh zk => addb_3 rfl (zh.ev rfl) (zh.ev rfl) (wrap_eq (by omega) (by omega) (by omega)) zk) ?_
      refine WL.mv rfl rfl rfl rfl rfl (WL.nil ?_)
      refine WE.round (k + 1) ⟨rfl, rfl, rfl, rfl, rfl, rfl, rfl, rfl, rfl, trivial⟩ ?_ ?_
      ·have hb55 : Below w.heap.size w w52 := (bstep hb47 hbc)
       have hB56 := hB49.below hbc
       have hB57 := hB51.below hbc
       exact ⟨by omega, by rw [all_take_t _ _ _ (by omega), hall]; simp_all, hb55, hB56, hB57⟩
      ·omega
    ·have h26 : ¬ ((((k : Nat) : Int) : Int) < (((l.length : Nat) : Int) : Int)) := by simpa using h26
     refine WC.exit (WE.thenExit (WE.thenExit (WE.blockIs rfl (WE.next (WC.seq (WC.region (WL.asg rfl rfl rfl rfl rfl (WL.nil (WE.next (WC.ret (WE.ret1 rfl rfl ?_)))))))))))
     exact ⟨_, rfl, congrArg Value.bool (by first | exact lk1 (by omega) | exact lk2 (by omega) (by omega) | exact lk3 (k := k) (by omega) (by omega) (by assumption) | exact lk4 (k := k) (by omega) (by omega) hall (by omega)), hb23⟩
end Go.Proofs.Ytnokgjajcnhkkaa

/- The variables of a term, gathered by a function that is handed down: the walks. -/
namespace Go.Proofs.Ytnokgjajcnhkkaa
open Go.RowKit Go
set_option linter.unusedVariables false
set_option linter.unusedSimpArgs false
def intV (n : Int) : Value := .int .i64 n
def newsF (f : Int) : List Int := if f < 0 then [-1 - f] else []
mutual
def varsT : T → List Int
 | .mk f l => newsF f ++ varsTL l
def varsTL : List T → List Int
 | [] => []
 | a :: r => varsT a ++ varsTL r
end
theorem varsTL_take {l : List T} {k : Nat} (h : k < l.length) : varsTL (l.take (k + 1)) = varsTL (l.take k) ++ varsT (tget l k) := by
 induction l generalizing k with
 | nil => simp at h
 | cons a r ih =>
  cases k with
  | zero => simp [varsTL, tget]
  | succ k =>
   have := ih (k := k) (by simpa using h)
   simp only [List.take_succ_cons, varsTL, List.append_assoc]
   rw [this]; rfl
mutual
theorem varsT_le : ∀ t : T, (varsT t).length ≤ t.size
 | .mk f l => by
  have := varsTL_le l
  rw [varsT, T.size, List.length_append]
  have : (newsF f).length ≤ 1 := by unfold newsF; split <;> simp
  omega
theorem varsTL_le : ∀ l : List T, (varsTL l).length ≤ T.sizeL l
 | [] => by simp [varsTL]
 | a :: r => by
  have := varsT_le a; have := varsTL_le r
  rw [varsTL, T.sizeL, List.length_append]; omega
end
mutual
theorem varsT_has (v : Int) (hv : v < 0) : ∀ t : T, (-1 - v) ∈ varsT t ↔ T.has v t = true
 | .mk f l => by
  rw [varsT, T.has, List.mem_append, varsTL_has v hv l, Bool.or_eq_true, decide_eq_true_eq]
  unfold newsF
  split
  ·simp; constructor
   ·rintro (h | h); exact .inl (by omega); exact .inr h
   ·rintro (h | h); exact .inl (by omega); exact .inr h
  ·simp; intro h; omega
theorem varsTL_has (v : Int) (hv : v < 0) : ∀ l : List T, (-1 - v) ∈ varsTL l ↔ T.hasL v l = true
 | [] => by simp [varsTL, T.hasL]
 | a :: r => by rw [varsTL, T.hasL, List.mem_append, varsT_has v hv a, varsTL_has v hv r, Bool.or_eq_true]
end
theorem ownI_len {w : World} {S : Nat → Prop} {ra : Option Addr} {rc n : Nat} {L : List Int} (h : Own w S 3 1 ra rc n (L.map intV)) : n = L.length := by
 have := h.1.1; simpa using this.symm
theorem size_tget {l : List T} {k : Nat} (h : k < l.length) : T.sizeL (l.take k) + (tget l k).size ≤ T.sizeL l := by
 have h1 := T.sizeL_take_succ l k h
 have h2 := T.sizeL_take_le l (k + 1)
 rw [tget_lt h]; omega
theorem each_len2 {L : List Int} {f : Int} {l : List T} {k : Nat} : (L ++ newsF f ++ varsTL (l.take k)).length ≤ L.length + 1 + T.sizeL l := by
 have h1 := varsTL_le (l.take k)
 have h2 := T.sizeL_take_le l k
 have h3 : (newsF f).length ≤ 1 := by unfold newsF; split <;> simp
 simp only [List.length_append]; omega
theorem each_len {L : List Int} {f : Int} {l : List T} {k N : Nat} (hz : L.length + (1 + T.sizeL l) ≤ N) (h : k < l.length) : (L ++ newsF f ++ varsTL (l.take k)).length + (tget l k).size ≤ N := by
 have h1 := varsTL_le (l.take k)
 have h2 := size_tget h
 have h3 : (newsF f).length ≤ 1 := by unfold newsF; split <;> simp
 simp only [List.length_append]; omega
/-- What gathering leaves. -/
def Gath (w : World) (base g : Nat) (L : List Int) (w' : World) : Prop :=
 ∃ ra rc n, Blk w' g 22 #[.slice ra n rc] ∧ Own w' (fun k => base ≤ k ∧ k ≠ g) 3 1 ra rc n (L.map intV) ∧ Chg (fun k => base ≤ k ∨ k = g) w w'
set_option maxRecDepth 100000 in
theorem vars1_any (f : Int) (hf : I64 f) (w0 w : World) (b o g base : Nat) (L : List Int) (ra : Option Addr) (rc n : Nat) (hb0 : Below w0.heap.size w0 w) (h0 : w0.cell? ⟨b, o, none⟩ = some (.int .i64 f)) (hB : Blk w g 22 #[.slice ra n rc]) (hO : Own w (fun k => base ≤ k ∧ k ≠ g) 3 1 ra rc n (L.map intV))
  (hbase : base ≤ w.heap.size) (hg : w0.heap.size ≤ g) (hbs : w0.heap.size ≤ base) (hz : L.length ≤ 4294967296) :
  Calls Try.prog 74 #[.pointer (some ⟨b, o, none⟩), .pointer (some ⟨g, 0, none⟩)] w (Ret fun v' w' => v' = .bool true ∧ Gath w base g (L ++ newsF f) w') := by
 obtain rfl := ownI_len hO
 have hf1 := hf.1
 have hf2 := hf.2
 have hgl := hB.lt
 have hbl : b < w0.heap.size := World.block_lt_of_cell? _ _ h0
 refine Calls.walk (l := [.pointer (some ⟨b, o, none⟩), .pointer (some ⟨g, 0, none⟩)]) Try.func74 rfl (by kernel_rfl) ?_
 refine WC.sub (K' := [(0, .pointer (some ⟨b, o, none⟩)), (1, .pointer (some ⟨g, 0, none⟩))]) ⟨rfl, rfl, trivial⟩ ?_
 refine WC.seq (WC.region (WL.asg rfl rfl rfl rfl rfl (WL.nil (WE.next (WC.seq (WC.seq (WC.region (WL.mv rfl rfl rfl rfl rfl ?_))))))))
 refine WL.val _ rfl rfl rfl (fun za zC zh zk => nilCheck_ rfl (zh.ev rfl) zk) ?_
 refine WL.val _ rfl rfl rfl (fun za zC zh zk => fld_34_0 rfl (zh.ev rfl) zk) ?_
 have hc1 := bkeeps hb0 _ _ h0
 refine WL.val _ rfl rfl rfl (fun za zC zh zk => ld_3 rfl (zh.ev rfl) hc1 zk) ?_
 refine WL.val (.bool ((decide ((f : Int) < (0 : Int))))) rfl rfl rfl (fun za zC zh zk => lss_3 rfl (zh.ev rfl) (zh.ev rfl) zk) ?_
 refine WL.nil (WE.next ?_)
 refine WC.cond rfl (fun h2 => ?_) (fun h2 => ?_)
 ·have h2 : (f : Int) < (0 : Int) := by simpa using h2
  refine WC.grow (S := (fun b => base ≤ b ∧ b ≠ g)) (e := 3) (size := 1) (ln := L.length) (xs := (L.map intV)) (g := g) (ty := 22) (cs := #[.slice ra L.length rc]) [(true, .slice ra L.length rc), (true, .pointer (some ⟨b, o, none⟩)), (true, .pointer (some ⟨b, o, none⟩)), (true, .pointer (some ⟨b, o, none⟩)), (true, .int .i64 f), (true, .int .i64 (((-1) - f))), (true, undef), (true, undef), (true, undef)] [(0, .pointer (some ⟨b, o, none⟩)), (1, .pointer (some ⟨g, 0, none⟩)), (3, .bool false), (8, .bool ((decide ((f : Int) < (0 : Int)))))] 0 1 [.int .i64 (((-1) - f))] 6 7 8 (by decide) (by kernel_rfl) (by (try dsimp only at *); omega) hO hB ⟨rfl, rfl, rfl, rfl, trivial⟩ (by kernel_rfl) (by kernel_rfl) (by kernel_rfl) ?_ ?_
  ·refine ⟨.inl ⟨true, by decide, by kernel_rfl, .none rfl, (fun gg b h => by cases h), (fun h => by cases h), fun zβ za zw zc => ?_⟩, ?_⟩
   ·exact ld_22 rfl (zc.kn.ev rfl) (chg_cell zc.chg (by (try dsimp only at *); omega) ((hB.cell 0).trans rfl)) ⟨_, rfl, rfl, optDef rfl rfl⟩
   refine ⟨.inl ⟨true, by decide, by kernel_rfl, .none rfl, (fun gg b h => by cases h), (fun h => by cases h), fun zβ za zw zc => ?_⟩, ?_⟩
   ·exact wp_move rfl (zc.kn.ev rfl) ⟨_, rfl, rfl, optDef rfl rfl⟩
   refine ⟨.inl ⟨true, by decide, by kernel_rfl, .none rfl, (fun gg b h => by cases h), (fun h => by cases h), fun zβ za zw zc => ?_⟩, ?_⟩
   ·exact nilCheck_ rfl ((evt za 10).trans (valVal (zc.dep 1 10 (by kernel_rfl) (by decide)) rfl rfl)) ⟨_, rfl, rfl, optDef rfl rfl⟩
   refine ⟨.inl ⟨true, by decide, by kernel_rfl, .none rfl, (fun gg b h => by cases h), (fun h => by cases h), fun zβ za zw zc => ?_⟩, ?_⟩
   ·exact fld_34_0 rfl ((evt za 11).trans (valVal (zc.dep 2 11 (by kernel_rfl) (by decide)) rfl rfl)) ⟨_, rfl, rfl, optDef rfl rfl⟩
   refine ⟨.inl ⟨true, by decide, by kernel_rfl, .none rfl, (fun gg b h => by cases h), (fun h => by cases h), fun zβ za zw zc => ?_⟩, ?_⟩
   ·exact ld_3 rfl ((evt za 12).trans (valVal (zc.dep 3 12 (by kernel_rfl) (by decide)) rfl rfl)) (chg_cell zc.chg (by (try dsimp only at *); omega) hc1) ⟨_, rfl, rfl, optDef rfl rfl⟩
   refine ⟨.inl ⟨true, by decide, by kernel_rfl, .none rfl, (fun gg b h => by cases h), (fun h => by cases h), fun zβ za zw zc => ?_⟩, ?_⟩
   ·exact subb_3 rfl (zc.kn.ev rfl) ((evt za 13).trans (valVal (zc.dep 4 13 (by kernel_rfl) (by decide)) rfl rfl)) (wrap_eq (by omega) (by omega) (by omega)) ⟨_, rfl, rfl, optDef rfl rfl⟩
   refine ⟨.inr (.inl ⟨rfl, rfl, by kernel_rfl, by kernel_rfl, fun za zw zc => ?_⟩), ?_⟩
   ·exact row_22_1 rfl ((evt za 14).trans (valVal (zc.dep 5 14 (by kernel_rfl) (by decide)) rfl rfl)) ⟨rfl, rfl⟩
   refine ⟨.inr (.inr (.inl ⟨rfl, rfl, by kernel_rfl, 15, by kernel_rfl, fun za zw g1 zc zo z1 zB => ?_⟩)), ?_⟩
   ·exact app_22 (S := (fun b => base ≤ b ∧ b ≠ g)) rfl ((evt za 9).trans (valVal (zc.dep 0 9 (by kernel_rfl) (by decide)) rfl rfl)) ((evt za 15).trans z1) zo (SrcIs.ofBlk zB) (by simp) (by simp [Value.oneCell']) (by omega) (by omega) (by have z2 := hbase; have z3 := zc.chg.size; have y0 := hB.lt; (try dsimp only at *); omega) (fun ra rc w' h1 h2 => ⟨ra, rc, rfl, h1, h2⟩)
   refine ⟨.inr (.inr (.inr ⟨rfl, rfl, 16, by kernel_rfl, by kernel_rfl, fun za zw ra rc zc z1 => ?_⟩)), ?_⟩
   ·exact st_22 rfl (zc.kn.ev rfl) ((evt za 16).trans z1) zc.blk (by first | decide | simp) (fun v => ⟨v, rfl, Upd.at_ _ _ _ _, zc.blk.set_ 0 _⟩)
   exact trivial
  ·intro za w3 ra4 rc5 zh hc6 hr7 hB8 zu
   have hb9 := chg_below hb0 hc6 (fun b hb => (by (try dsimp only at *); omega))
   clear zu
   refine WE.go zh ?_
   refine WE.next (WC.seq (WC.region (WL.asg rfl rfl rfl rfl rfl (WL.nil (WE.next (WC.ret (WE.ret1 rfl rfl ?_)))))))
   have hs10 : Chg ((fun k => base ≤ k ∨ k = g)) w w3 := (Chg.trans2 (Chg.refl ((fun k => base ≤ k ∨ k = g)) _) hc6 (fun i h1 h2 => by first | exact h2 | exact .inl ⟨h2, h1⟩ | exact .inl h2 | exact .inr h2 | exact .inr (.inl h2) | exact .inr (.inr h2) | ((try dsimp only at *); omega)))
   exact ⟨_, rfl, rfl, _, _, _, hB8, (by rw [show newsF f = [-1 - f] from if_pos (by omega), List.map_append]; exact hr7), hs10⟩
 ·have h2 : ¬ ((f : Int) < (0 : Int)) := by simpa using h2
  refine WC.skip (WE.next (WC.seq (WC.region (WL.asg rfl rfl rfl rfl rfl (WL.nil (WE.next (WC.ret (WE.ret1 rfl rfl ?_))))))))
  have hs11 : Chg ((fun k => base ≤ k ∨ k = g)) w w := (Chg.refl ((fun k => base ≤ k ∨ k = g)) _)
  exact ⟨_, rfl, rfl, ra, rc, _, hB, (by rw [show newsF f = [] from if_neg (by omega), List.append_nil]; exact hO), hs11⟩
theorem each_step {F : FuncId} {vs : Array Value} {w : World} {base g : Nat} {X : List Int} {l : List T} {k : Nat} (h : k < l.length) (H : Calls Try.prog F vs w (Ret fun v' w' => v' = .bool true ∧ Gath w base g (X ++ varsTL (l.take k) ++ varsT (tget l k)) w')) :
  Calls Try.prog F vs w (Ret fun v' w' => v' = .bool true ∧ Gath w base g (X ++ varsTL (l.take (k + 1))) w') := by
 rw [varsTL_take h, ← List.append_assoc]; exact H
set_option maxRecDepth 100000 in
theorem each_any (t : T) : ∀ (w0 w : World) (b o g base : Nat) (A : Option Addr) (C : Nat) (L : List Int) (ra : Option Addr) (rc n : Nat) (_ : Below w0.heap.size w0 w) (_ : w0.cell? ⟨b, o, none⟩ = some (.int .i64 t.f)) (_ : w0.cell? ⟨b, o + 1, none⟩ = some (.slice A t.args.length C)) (_ : IsT w0 t (.agg #[.int .i64 t.f, .slice A t.args.length C]))
  (_ : Blk w g 22 #[.slice ra n rc]) (_ : Own w (fun k => base ≤ k ∧ k ≠ g) 3 1 ra rc n (L.map intV)) (_ : base ≤ w.heap.size) (_ : w0.heap.size ≤ g) (_ : w0.heap.size ≤ base) (_ : L.length + t.size ≤ 4294967296),
  Calls Try.prog 73 #[.pointer (some ⟨b, o, none⟩), .func (.func 74) #[] #[.pointer (some ⟨g, 0, none⟩)]] w (Ret fun v' w' => v' = .bool true ∧ Gath w base g (L ++ varsT t) w') := by
 induction t using T.ind with
 | h f l ih =>
 intro w0 w b o g base A C L ra rc n hb0 h0 h1 hT hB hO hbase hg hbs hz
 obtain rfl := ownI_len hO
 simp only [T.f_mk, T.args_mk] at h0 h1 hT
 rw [T.size] at hz
 have hf := hT.form.1
 obtain ⟨_, hc, hm, hl⟩ := isT_row hT
 simp only [T.args_mk] at hc hl
 unfold maxLen at hm
 have hgl := hB.lt
 have hnl : (newsF f).length ≤ 1 := by unfold newsF; split <;> simp
 refine Calls.walk (l := [.pointer (some ⟨b, o, none⟩), .func (.func 74) #[] #[.pointer (some ⟨g, 0, none⟩)]]) Try.func73 rfl (by kernel_rfl) ?_
 refine WC.sub (K' := [(0, .pointer (some ⟨b, o, none⟩)), (1, .func (.func 74) #[] #[.pointer (some ⟨g, 0, none⟩)])]) ⟨rfl, rfl, trivial⟩ ?_
 refine WC.seq (WC.region (WL.asg rfl rfl rfl rfl rfl (WL.nil (WE.next (WC.seq (WC.seq (WC.region (WL.mv rfl rfl rfl rfl rfl (WL.mv rfl rfl rfl rfl rfl ?_)))))))))
 refine WL.call rfl rfl rfl (fun za zh zC => wp_callv (by kernel_rfl) rfl (zh.ev rfl) (hv1 (zh.ev rfl))) (vars1_any f hf w0 _ b o g base L _ _ _ hb0 h0 hB hO hbase hg hbs (by omega)) ?_
 rintro _ w8 ⟨rfl, ⟨ra21, rc22, n23, hB24, hO25, hC6⟩⟩
 have hb9 := chg_below hb0 hC6 (fun b hb => (by (try dsimp only at *); omega))
 obtain rfl := ownI_len hO25
 have hbs27 : base ≤ w8.heap.size := Nat.le_trans hbase hC6.size
 refine WL.val (.bool false) rfl rfl rfl (fun za zC zh zk => wp_not rfl (zh.ev rfl) zk) ?_
 refine WL.nil (WE.next ?_)
 refine WC.condF rfl rfl ?_
 refine WC.skip (WE.next (WC.seq (WC.seq (WC.region (WL.mv rfl rfl rfl rfl rfl ?_)))))
 refine WL.val _ rfl rfl rfl (fun za zC zh zk => nilCheck_ rfl (zh.ev rfl) zk) ?_
 refine WL.val _ rfl rfl rfl (fun za zC zh zk => fld_34_1 rfl (zh.ev rfl) zk) ?_
 have hc10 := bkeeps hb9 _ _ h1
 refine WL.val _ rfl rfl rfl (fun za zC zh zk => ld_32 rfl (zh.ev rfl) hc10 zk) ?_
 refine WL.val (.int .i64 (((l.length : Nat) : Int))) rfl rfl rfl (fun za zC zh zk => len_32 rfl (zh.ev rfl) zk) ?_
 refine WL.mv rfl rfl rfl rfl rfl (WL.nil (WE.next (WC.block ?_)))
 refine WC.loop (X := Option Addr × Nat × Nat) (fun x => l.length - x.2.2) (fun x => [(0, .pointer (some ⟨b, o, none⟩)), (1, .func (.func 74) #[] #[.pointer (some ⟨g, 0, none⟩)]), (9, .bool false), (14, .int .i64 (((l.length : Nat) : Int))), (15, .int .i64 (((x.2.2 : Nat) : Int)))]) (fun x w11 => x.2.2 ≤ l.length ∧ base ≤ (w11).heap.size ∧ Below w0.heap.size w0 w11 ∧ Blk w11 g 22 #[.slice x.1 ((L ++ newsF f ++ varsTL (l.take x.2.2)).length) x.2.1] ∧ base ≤ (w11).heap.size ∧ Own w11 (fun b => base ≤ b ∧ b ≠ g) 3 1 x.1 x.2.1 ((L ++ newsF f ++ varsTL (l.take x.2.2)).length) (((L ++ newsF f ++ varsTL (l.take x.2.2)).map intV)) ∧ Chg ((fun k => base ≤ k ∨ k = g)) w w11) ((ra21, rc22, 0)) ⟨rfl, rfl, rfl, rfl, rfl, trivial⟩ ?_ ?_
 ·have hs12 : Chg ((fun k => base ≤ k ∨ k = g)) w w8 := (Chg.trans2 (Chg.refl ((fun k => base ≤ k ∨ k = g)) _) hC6 (fun i h1 h2 => by first | exact h2 | exact .inl ⟨h2, h1⟩ | exact .inl h2 | exact .inr h2 | exact .inr (.inl h2) | exact .inr (.inr h2) | ((try dsimp only at *); omega)))
  exact ⟨Nat.zero_le _, hbs27, hb9, (by simpa [varsTL] using hB24), (by have z2 := hbs27; omega), (by simpa [varsTL] using hO25), hs12⟩
 ·rintro x w11 ⟨hk, hbw, hb13, hB14, hf16, hr15, hc17⟩
  have hlv := each_len2 (L := L) (f := f) (l := l) (k := x.2.2)
  refine WC.seq (WC.region ?_)
  refine WL.val (.bool ((decide ((((x.2.2 : Nat) : Int) : Int) < (((l.length : Nat) : Int) : Int))))) rfl rfl rfl (fun za zC zh zk => lss_3 rfl (zh.ev rfl) (zh.ev rfl) zk) ?_
  refine WL.nil (WE.next (WC.seq ?_))
  refine WC.cond rfl (fun h18 => ?_) (fun h18 => ?_)
  ·have h18 : (((x.2.2 : Nat) : Int) : Int) < (((l.length : Nat) : Int) : Int) := by simpa using h18
   refine WC.skip (WE.next (WC.seq (WC.block (WC.seq (WC.region (WL.mv rfl rfl rfl rfl rfl (WL.asg rfl rfl rfl rfl rfl (WL.nil (WE.next (WC.seq (WC.region (WL.mv rfl rfl rfl rfl rfl ?_))))))))))))
   refine WL.val _ rfl rfl rfl (fun za zC zh zk => nilCheck_ rfl (zh.ev rfl) zk) ?_
   refine WL.val _ rfl rfl rfl (fun za zC zh zk => fld_34_1 rfl (zh.ev rfl) zk) ?_
   have hc19 := bkeeps hb13 _ _ h1
   refine WL.val _ rfl rfl rfl (fun za zC zh zk => ld_32 rfl (zh.ev rfl) hc19 zk) ?_
   refine WL.mv rfl rfl rfl rfl rfl ?_
   obtain ⟨b20, o21, A22, C23, ha24, hc25⟩ := IsTs.open hl
   refine WL.val _ rfl rfl rfl (fun za zC zh zk => ix_32 (k := x.2.2) rfl (zh.ev rfl) (ha24 x.2.2 (by first | omega | (simp; omega))) (zh.ev rfl) (by first | omega | (simp; omega)) zk) ?_
   refine WL.mv rfl rfl rfl rfl rfl ?_
   refine WL.call rfl rfl rfl (fun za zh zC => wp_call (by kernel_rfl) rfl (hv2 (zh.ev rfl) (zh.ev rfl))) (each_step (by omega) (ih (tget l x.2.2) (tget_mem (by omega)) w0 _ _ _ g base _ _ _ _ _ _ hb13 (hc25 x.2.2 (by omega)).1 (hc25 x.2.2 (by omega)).2.1 (hc25 x.2.2 (by omega)).2.2 hB14 hr15 hbw hg hbs (each_len hz (by omega)))) ?_
   rintro _ w33 ⟨rfl, ⟨ra226, rc227, n228, hB229, hO230, hC31⟩⟩
   have hb34 := chg_below hb13 hC31 (fun b hb => (by (try dsimp only at *); omega))
   obtain rfl := ownI_len hO230
   have hbs232 : base ≤ w33.heap.size := Nat.le_trans hbw hC31.size
   refine WL.val (.bool false) rfl rfl rfl (fun za zC zh zk => wp_not rfl (zh.ev rfl) zk) ?_
   refine WL.nil (WE.next ?_)
   refine WC.condF rfl rfl ?_
   refine WC.skip (WE.blockNormal (WE.next (WC.region ?_)))
   refine WL.val (.int .i64 ((((x.2.2 + 1) : Nat) : Int))) rfl rfl rfl (fun za zC zh zk => addb_3 rfl (zh.ev rfl) (zh.ev rfl) (wrap_eq (by omega) (by omega) (by omega)) zk) ?_
   refine WL.mv rfl rfl rfl rfl rfl (WL.nil ?_)
   refine WE.round ((ra226, rc227, x.2.2 + 1)) ⟨rfl, rfl, rfl, rfl, rfl, trivial⟩ ?_ ?_
   ·have hs35 : Chg ((fun k => base ≤ k ∨ k = g)) w w33 := (Chg.trans2 (Chg.trans2 (Chg.refl ((fun k => base ≤ k ∨ k = g)) _) hc17 (fun i h1 h2 => by first | exact h2 | exact .inl ⟨h2, h1⟩ | exact .inl h2 | exact .inr h2 | exact .inr (.inl h2) | exact .inr (.inr h2) | ((try dsimp only at *); omega))) hC31 (fun i h1 h2 => by first | exact h2 | exact .inl ⟨h2, h1⟩ | exact .inl h2 | exact .inr h2 | exact .inr (.inl h2) | exact .inr (.inr h2) | ((try dsimp only at *); omega)))
    exact ⟨by dsimp only; omega, hbs232, hb34, (by dsimp only; exact hB229), (by have z2 := hbs232; omega), (by dsimp only; exact hO230), hs35⟩
   ·dsimp only; omega
  ·have h18 : ¬ ((((x.2.2 : Nat) : Int) : Int) < (((l.length : Nat) : Int) : Int)) := by simpa using h18
   refine WC.exit (WE.thenExit (WE.thenExit (WE.blockIs rfl (WE.next (WC.seq (WC.region (WL.asg rfl rfl rfl rfl rfl (WL.nil (WE.next (WC.ret (WE.ret1 rfl rfl ?_)))))))))))
   have hs36 : Chg ((fun k => base ≤ k ∨ k = g)) w w11 := (Chg.trans2 (Chg.refl ((fun k => base ≤ k ∨ k = g)) _) hc17 (fun i h1 h2 => by first | exact h2 | exact .inl ⟨h2, h1⟩ | exact .inl h2 | exact .inr h2 | exact .inr (.inl h2) | exact .inr (.inr h2) | ((try dsimp only at *); omega)))
   have e : varsT (.mk f l) = newsF f ++ varsTL (l.take x.2.2) := by rw [varsT, List.take_of_length_le (by omega)]
   rw [e, ← List.append_assoc]
   exact ⟨_, rfl, rfl, _, _, _, hB14, hr15, hs36⟩
end Go.Proofs.Ytnokgjajcnhkkaa

namespace Go.Proofs.Ytnokgjajcnhkkaa
open Go.RowKit Go.Sort Go.Shelf Go
def Try.lSort_ren : Go.Shelf.Ren := ⟨fun | 5 => 75 | 8 => 78 | 7 => 77 | 19 => 88 | 20 => 89 | 10 => 79 | 11 => 80 | 12 => 81 | 13 => 82 | 14 => 83 | 15 => 84 | 16 => 85 | 17 => 86 | 18 => 87 | 30 => 90 | 31 => 91 | 32 => 92 | 33 => 93 | 34 => 94 | 35 => 95 | 40 => 96 | n => n, fun | 23 => 22 | 25 => 3 | 3 => 3 | 32 => 109 | 22 => 22 | 0 => 0 | 44 => 119 | 46 => 121 | 4 => 4 | 36 => 112 | 35 => 111 | 41 => 116 | 5 => 5 | 9 => 9 | 53 => 122 | 57 => 126 | 63 => 129 | 64 => 130 | n => n, fun | n => n⟩
theorem Try.lSort : Go.Proofs.SlLaysM.n5 Try.prog Try.lSort_ren := {
  mixed := by kernel_rfl,
  f5 := ⟨Try.f75.name, by decide, Try.func75.trans (congrArg some (by kernel_rfl))⟩,
  f7 := ⟨Try.f77.name, by decide, Try.func77.trans (congrArg some (by kernel_rfl))⟩,
  f8 := Try.func78.trans (congrArg some (by kernel_rfl)),
  f10 := ⟨Try.f79.name, by decide, Try.func79.trans (congrArg some (by kernel_rfl))⟩,
  f11 := ⟨Try.f80.name, by decide, Try.func80.trans (congrArg some (by kernel_rfl))⟩,
  f12 := ⟨Try.f81.name, by decide, Try.func81.trans (congrArg some (by kernel_rfl))⟩,
  f13 := ⟨Try.f82.name, by decide, Try.func82.trans (congrArg some (by kernel_rfl))⟩,
  f14 := ⟨Try.f83.name, by decide, Try.func83.trans (congrArg some (by kernel_rfl))⟩,
  f15 := ⟨Try.f84.name, by decide, Try.func84.trans (congrArg some (by kernel_rfl))⟩,
  f16 := ⟨Try.f85.name, by decide, Try.func85.trans (congrArg some (by kernel_rfl))⟩,
  f17 := ⟨Try.f86.name, by decide, Try.func86.trans (congrArg some (by kernel_rfl))⟩,
  f18 := ⟨Try.f87.name, by decide, Try.func87.trans (congrArg some (by kernel_rfl))⟩,
  f19 := Try.func88.trans (congrArg some (by kernel_rfl)),
  f20 := Try.func89.trans (congrArg some (by kernel_rfl)),
  f30 := ⟨Try.f90.name, by decide, Try.func90.trans (congrArg some (by kernel_rfl))⟩,
  f31 := Try.func91.trans (congrArg some (by kernel_rfl)),
  f32 := Try.func92.trans (congrArg some (by kernel_rfl)),
  f33 := ⟨Try.f93.name, by decide, Try.func93.trans (congrArg some (by kernel_rfl))⟩,
  f34 := ⟨Try.f94.name, by decide, Try.func94.trans (congrArg some (by kernel_rfl))⟩,
  f35 := ⟨Try.f95.name, by decide, Try.func95.trans (congrArg some (by kernel_rfl))⟩,
  f40 := ⟨Try.f96.name, by decide, Try.func96.trans (congrArg some (by kernel_rfl))⟩,
  t0 := Try.underlying0,
  a0 := Try.isAgg0,
  z0 := Try.sizeOf0,
  v0 := Try.zeroValue0,
  t3 := Try.underlying3,
  a3 := Try.isAgg3,
  z3 := Try.sizeOf3,
  v3 := Try.zeroValue3,
  t4 := Try.underlying4,
  a4 := Try.isAgg4,
  z4 := Try.sizeOf4,
  v4 := Try.zeroValue4,
  t5 := Try.underlying5,
  a5 := Try.isAgg5,
  z5 := Try.sizeOf5,
  v5 := Try.zeroValue5,
  t9 := Try.underlying9,
  a9 := Try.isAgg9,
  z9 := Try.sizeOf9,
  v9 := Try.zeroValue9,
  t22 := Try.underlying22,
  a22 := Try.isAgg22,
  z22 := Try.sizeOf22,
  v22 := Try.zeroValue22,
  t23 := Try.underlying22,
  a23 := Try.isAgg22,
  z23 := Try.sizeOf22,
  v23 := Try.zeroValue22,
  t25 := Try.underlying3,
  a25 := Try.isAgg3,
  z25 := Try.sizeOf3,
  v25 := Try.zeroValue3,
  t32 := Try.underlying109,
  a32 := Try.isAgg109,
  z32 := Try.sizeOf109,
  v32 := Try.zeroValue109,
  t35 := Try.underlying111,
  a35 := Try.isAgg111,
  z35 := Try.sizeOf111,
  v35 := Try.zeroValue111,
  t36 := Try.underlying112,
  a36 := Try.isAgg112,
  z36 := Try.sizeOf112,
  v36 := Try.zeroValue112,
  t41 := Try.underlying116,
  a41 := Try.isAgg116,
  z41 := Try.sizeOf116,
  v41 := Try.zeroValue116,
  t44 := Try.underlying119,
  a44 := Try.isAgg119,
  z44 := Try.sizeOf119,
  v44 := Try.zeroValue119,
  t46 := Try.underlying121,
  a46 := Try.isAgg121,
  z46 := Try.sizeOf121,
  v46 := Try.zeroValue121,
  t53 := Try.underlying122,
  a53 := Try.isAgg122,
  z53 := Try.sizeOf122,
  v53 := Try.zeroValue122,
  t57 := Try.underlying126,
  a57 := Try.isAgg126,
  z57 := Try.sizeOf126,
  v57 := Try.zeroValue126,
  t63 := Try.underlying129,
  a63 := Try.isAgg129,
  z63 := Try.sizeOf129,
  v63 := Try.zeroValue129,
  t64 := Try.underlying130,
  a64 := Try.isAgg130,
  z64 := Try.sizeOf130,
  v64 := Try.zeroValue130 }
def Try.lCompact_ren : Go.Shelf.Ren := ⟨fun | 20 => 76 | n => n, fun | 22 => 22 | 3 => 3 | 4 => 4 | 0 => 0 | n => n, fun | n => n⟩
theorem Try.lCompact : Go.Proofs.Lays2.n20 Try.prog Try.lCompact_ren := {
  mixed := by kernel_rfl,
  f20 := Try.func76.trans (congrArg some (by kernel_rfl)),
  t0 := Try.underlying0,
  a0 := Try.isAgg0,
  z0 := Try.sizeOf0,
  v0 := Try.zeroValue0,
  t3 := Try.underlying3,
  a3 := Try.isAgg3,
  z3 := Try.sizeOf3,
  v3 := Try.zeroValue3,
  t4 := Try.underlying4,
  a4 := Try.isAgg4,
  z4 := Try.sizeOf4,
  v4 := Try.zeroValue4,
  t22 := Try.underlying22,
  a22 := Try.isAgg22,
  z22 := Try.sizeOf22,
  v22 := Try.zeroValue22,
  i3 := by kernel_rfl }
def Try.lContains_ren : Go.Shelf.Ren := ⟨fun | 107 => 27 | 108 => 34 | n => n, fun | 28 => 22 | 3 => 3 | 4 => 4 | 0 => 0 | n => n, fun | n => n⟩
theorem Try.lContains : Go.Proofs.Lays.n107 Try.prog Try.lContains_ren := {
  mixed := by kernel_rfl,
  f107 := Try.func27.trans (congrArg some (by kernel_rfl)),
  f108 := Try.func34.trans (congrArg some (by kernel_rfl)),
  t0 := Try.underlying0,
  a0 := Try.isAgg0,
  z0 := Try.sizeOf0,
  v0 := Try.zeroValue0,
  t3 := Try.underlying3,
  a3 := Try.isAgg3,
  z3 := Try.sizeOf3,
  v3 := Try.zeroValue3,
  t4 := Try.underlying4,
  a4 := Try.isAgg4,
  z4 := Try.sizeOf4,
  v4 := Try.zeroValue4,
  t28 := Try.underlying22,
  a28 := Try.isAgg22,
  z28 := Try.sizeOf22,
  v28 := Try.zeroValue22 }
end Go.Proofs.Ytnokgjajcnhkkaa
