/- What a matcher tells: the program. -/
import Derived.Test.YtcmfjnadjddboaaMatSub
import Derived.Test.YtcmfjnadjddboaaMatCmp
import Derived.Test.YtcmfjnadjddboaaMatTermWalk
namespace Go.Proofs.Ytcmfjnadjddboaa
open Go.RowKit Go

set_option maxRecDepth 100000 in
theorem msub_any {g : Nat} {st : List Bd} {C : Nat → Prop} (w : World) (h : MatAt w g st C) (hz : st.length ≤ 4294967296) : Calls Try.prog 23 #[.pointer (some ⟨g, 0, none⟩)] w (Ret fun v' w' => (∃ R p c, v' = .slice p R.length c ∧ SubOf st R ∧ NewBs w w' R p c) ∧ Below w.heap.size w w') := by
  obtain ⟨mb, es, cl, a, c, ps, hM⟩ := h
  have hgm := hM.gmb
  have hgl := hM.blk.lt
  have hml := hM.map.lt
  have hnd := hM.nd
  have hlp := hM.len
  refine Calls.walk (l := [.pointer (some ⟨g, 0, none⟩)]) Try.func23 rfl (by kernel_rfl) ?_
  refine WC.sub (K' := [(0, .pointer (some ⟨g, 0, none⟩))]) ⟨rfl, trivial⟩ ?_
  refine WC.seq ?_
  refine WC.region ?_
  refine WL.val (.slice none 0 0) rfl rfl rfl (fun za zC zh zk => wp_assign rfl (zh.ev rfl) zk) ?_
  refine WL.nil (WE.sub (K' := [(0, .pointer (some ⟨g, 0, none⟩)), (2, .slice none 0 0)]) ⟨rfl, rfl, trivial⟩ ?_)
  refine WE.next ?_
  refine WC.seq ?_
  refine WC.seq ?_
  refine WC.region ?_
  refine WL.val (.pointer (some ⟨g, 0, none⟩)) rfl rfl rfl (fun za zC zh zk => wp_move rfl (zh.ev rfl) zk) ?_
  refine WL.val (.bool false) rfl rfl rfl (fun za zC zh zk => eqlp_33 rfl (zh.ev rfl) (zh.ev rfl) zk) ?_
  refine WL.nil (WE.sub (K' := [(0, .pointer (some ⟨g, 0, none⟩)), (2, .slice none 0 0), (7, .bool false)]) ⟨rfl, rfl, rfl, trivial⟩ ?_)
  refine WE.next ?_
  refine WC.condF rfl rfl ?_
  refine WC.skip ?_
  refine WE.next ?_
  refine WC.seq ?_
  refine WC.region ?_
  refine WL.val (.slice none 0 0) rfl rfl rfl (fun za zC zh zk => wp_assign rfl (zh.ev rfl) zk) ?_
  refine WL.nil (WE.sub (K' := [(0, .pointer (some ⟨g, 0, none⟩)), (2, .slice none 0 0), (3, .slice none 0 0), (7, .bool false)]) ⟨rfl, rfl, rfl, rfl, trivial⟩ ?_)
  refine WE.next ?_
  refine WC.seq ?_
  refine WC.seq ?_
  refine WC.region ?_
  refine WL.val (.pointer (some ⟨g, 0, none⟩)) rfl rfl rfl (fun za zC zh zk => wp_move rfl (zh.ev rfl) zk) ?_
  refine WL.val (.pointer (some ⟨g, 0, none⟩)) rfl rfl rfl (fun za zC zh zk => nilCheck_ rfl (zh.ev rfl) zk) ?_
  refine WL.val (.pointer (some ⟨g, 0, none⟩)) rfl rfl rfl (fun za zC zh zk => fld_64_0 rfl (zh.ev rfl) zk) ?_
  refine WL.val (.map ((some mb))) rfl rfl rfl (fun za zC zh zk => ld_62 rfl (zh.ev rfl) ((hM.blk.cell 0).trans rfl) zk) ?_
  refine WL.step (post := fun v w' => NewIt w mb cl v w') rfl rfl rfl (fun za zC zh zk => wp_range_im Try.underlying62 hM.map rfl (zh.ev rfl) (fun v w' h => zk v w' h)) ?_
  rintro _ w1 ⟨g2, rfl, hg3, hI4, hb5, hs6⟩
  have hl7 : g < g2 := by have z1 := hM.blk.lt; omega
  have hl8 : mb < g2 := by have z1 := hM.map.lt; omega
  have hl9 : w.heap.size ≤ g2 := by omega
  refine WL.nil (WE.sub (K' := [(0, .pointer (some ⟨g, 0, none⟩)), (2, .slice none 0 0), (3, .slice none 0 0), (7, .bool false), (12, .pointer (some ⟨g2, 0, none⟩))]) ⟨rfl, rfl, rfl, rfl, rfl, trivial⟩ ?_)
  refine WE.next ?_
  refine WC.block ?_
  have hl10 : g < w1.heap.size := by have z1 := hM.blk.lt; have z2 := (hb5).size; omega
  have hl11 : mb < w1.heap.size := by have z1 := hM.map.lt; have z2 := (hb5).size; omega
  have hl12 : g2 < w1.heap.size := by have z1 := hI4.lt; omega
  have hl13 : w.heap.size ≤ w1.heap.size := (hb5).size
  have hR14 : RowE eltB w1 w1.heap.size 57 none 0 0 [] := RowE.nil
  refine WC.loop (X := SX) (fun x => x.rest.length) (fun x => [(0, .pointer (some ⟨g, 0, none⟩)), (2, .slice none 0 0), (3, .slice x.a x.n x.c), (7, .bool false), (12, .pointer (some ⟨g2, 0, none⟩))]) (fun x w15 => w1.heap.size ≤ (w15).heap.size ∧ ItE es ((st.map (·.var)).zip ps) x.seen x.done x.rest ∧ Below w.heap.size w w15 ∧ Blk w15 g 64 #[.map ((some mb)), .slice a st.length c] ∧ ObjAt (w15) mb (.map es cl) ∧ ObjAt (w15) g2 (.mapIter (some mb) cl x.seen cl) ∧ RowE eltB (w15) w1.heap.size 57 x.a x.c x.n ((told st x.done))) (⟨[], ((st.map (·.var)).zip ps), #[], none, 0, 0⟩) ⟨rfl, rfl, rfl, rfl, rfl, trivial⟩ ?_ ?_
  · have hB16 := hM.blk.below hb5
    have ho17 := hM.map.below hb5
    exact ⟨Nat.le_refl _, ItE.start hM.ent, hb5, hB16, ho17, hI4, (by simpa [told] using hR14)⟩
  · rintro x w15 ⟨hBw, hIt, hb18, hB19, ho20, ho21, ho22⟩
    refine WC.seq ?_
    refine WC.region ?_
    refine WL.step (post := fun v w' => (v = .tuple #[.bool false] ∧ w15 = w' ∧ x.rest = []) ∨ ∃ y rest2 seen2, v = .tuple #[.bool true, .int .i64 y.1, y.2] ∧ x.rest.Perm (y :: rest2) ∧ rest2.length < x.rest.length ∧ ItE es ((st.map (·.var)).zip ps) seen2 (x.done ++ [y]) rest2 ∧ CurE es seen2 y ∧ ObjAt w' g2 (.mapIter (some mb) cl seen2 cl) ∧ Upd g2 w15 w') rfl rfl rfl (fun za zC zh zk => wp_next_im ho20 ho21 hM.ent hIt rfl (zh.ev rfl) (fun h => zk _ _ (.inl ⟨rfl, rfl, h⟩)) (fun y r2 s2 w' h1 h2 h3 h4 h5 h6 => zk _ _ (.inr ⟨y, r2, s2, rfl, h1, h2, h3, h4, h5, h6⟩))) ?_
    rintro v w23 (⟨rfl, rfl, hre⟩ | ⟨y, rest2, seen2, rfl, hrp, hrl, hIt2, hcu, hI25, hu24⟩)
    · refine WL.val (.bool false) rfl rfl rfl (fun za zC zh zk => ext1_0 rfl (zh.ev rfl) zk) ?_
      refine WL.nil (WE.sub (K' := [(0, .pointer (some ⟨g, 0, none⟩)), (2, .slice none 0 0), (3, .slice x.a x.n x.c), (7, .bool false), (12, .pointer (some ⟨g2, 0, none⟩)), (14, .bool false)]) ⟨rfl, rfl, rfl, rfl, rfl, rfl, trivial⟩ ?_)
      refine WE.next ?_
      refine WC.seq ?_
      refine WC.condF rfl rfl ?_
      refine WC.exit ?_
      refine WE.thenExit ?_
      refine WE.thenExit ?_
      refine WE.blockIs rfl ?_
      refine WE.next ?_
      refine WC.seq ?_
      refine WC.region ?_
      refine WL.val (.slice x.a x.n x.c) rfl rfl rfl (fun za zC zh zk => wp_move rfl (zh.ev rfl) zk) ?_
      rw [hre] at hIt
      have hn9 := told_le hlp hIt
      have hn8 := ho22.len
      have hSo : ∀ b, (Value.slice x.a x.n x.c).ownBlock = some b → w1.heap.size ≤ b ∧ b < w15.heap.size := fun b h => ho22.lt b h
      refine WL.call rfl rfl rfl (fun za zh zC => wp_call (by kernel_rfl) rfl (hv2 (zh.ev rfl) (zh.ev rfl))) (sortB_own ho22 (by omega) cmpIs_mat) ?_
      rintro _ w26 ⟨ls, rfl, hps, hss, hrs, hcs⟩
      have hb27 := chg_below hb18 hcs (fun b hb => (fun h => by have h := hSo _ h; (try dsimp only at *); omega))
      have hB28 := chg_blk hB19 hcs (fun h => by have h := hSo _ h; (try dsimp only at *); omega)
      have ho29 := ho20.chg hcs (fun h => by have h := hSo _ h; (try dsimp only at *); omega)
      have ho30 := ho21.chg hcs (fun h => by have h := hSo _ h; (try dsimp only at *); omega)
      refine WL.nil (WE.sub (K' := [(0, .pointer (some ⟨g, 0, none⟩)), (2, .slice none 0 0), (3, .slice x.a x.n x.c), (7, .bool false), (12, .pointer (some ⟨g2, 0, none⟩)), (14, .bool false)]) ⟨rfl, rfl, rfl, rfl, rfl, rfl, trivial⟩ ?_)
      refine WE.next ?_
      refine WC.seq ?_
      refine WC.region ?_
      refine WL.val (.slice x.a x.n x.c) rfl rfl rfl (fun za zC zh zk => wp_move rfl (zh.ev rfl) zk) ?_
      refine WL.val (.slice x.a x.n x.c) rfl rfl rfl (fun za zC zh zk => wp_assign rfl (zh.ev rfl) zk) ?_
      refine WL.nil (WE.sub (K' := [(0, .pointer (some ⟨g, 0, none⟩)), (2, .slice x.a x.n x.c), (3, .slice x.a x.n x.c), (7, .bool false), (12, .pointer (some ⟨g2, 0, none⟩)), (14, .bool false)]) ⟨rfl, rfl, rfl, rfl, rfl, rfl, trivial⟩ ?_)
      refine WE.next ?_
      refine WC.ret ?_
      refine WE.ret1 rfl rfl ?_
      have hRo := (hrs).inRow
      rw [hRo.2.1]
      refine ⟨_, rfl, ⟨ls, _, _, rfl, subOf_sorted hnd (hps.trans (told_all hnd hlp hIt)) hss, hRo.1.mono (by decide) (fun b hb _ => by omega), by omega, hRo.2.2.2⟩, hb27⟩
    · obtain ⟨i, hi, hy1, hy2⟩ := zip_at hlp (it_mem hIt hrp)
      obtain ⟨pb, po, pa, pc, hpv, hp1, hp2, hp3⟩ := (hM.ptr i hi).isTp
      rw [hpv] at hy2
      have hi64 := hM.i64 _ (dget_mem hi)
      have hszi := hM.sz _ (dget_mem hi)
      have hbd := bdOf_at hnd hi hy1
      have htl := told_lt hlp hIt (by omega)
      have hi64b := hi64
      unfold I64 at hi64b
      rw [hy1, hy2]
      have hR31 : RowE eltB w23 w1.heap.size 57 x.a x.c x.n ((told st x.done)) := ho22.upd hu24 (by omega)
      have hb32 := upd_below hb18 hu24 (by omega)
      have hB33 := upd_blk hB19 hu24 (by omega)
      have ho34 := ho20.upd hu24 (by omega)
      refine WL.val (.bool true) rfl rfl rfl (fun za zC zh zk => ext3_0 rfl (zh.ev rfl) zk) ?_
      refine WL.nil (WE.sub (K' := [(0, .pointer (some ⟨g, 0, none⟩)), (2, .slice none 0 0), (3, .slice x.a x.n x.c), (7, .bool false), (12, .pointer (some ⟨g2, 0, none⟩)), (14, .bool true)]) ⟨rfl, rfl, rfl, rfl, rfl, rfl, trivial⟩ ?_)
      refine WE.next ?_
      refine WC.seq ?_
      refine WC.condT rfl rfl ?_
      refine WC.skip ?_
      refine WE.next ?_
      refine WC.block ?_
      refine WC.seq ?_
      refine WC.region ?_
      refine WL.val (.tuple #[.int .i64 ((dget st i).var), .pointer (some ⟨pb, po, none⟩)]) rfl rfl rfl (fun za zC zh zk => wp_entry_im ho34 hI25 hM.ent hcu rfl (zh.ev rfl) (by rw [hy1, hy2]; exact zk)) ?_
      refine WL.val (.int .i64 ((dget st i).var)) rfl rfl rfl (fun za zC zh zk => ext2_0 rfl (zh.ev rfl) zk) ?_
      refine WL.val (.pointer (some ⟨pb, po, none⟩)) rfl rfl rfl (fun za zC zh zk => ext2_1 rfl (zh.ev rfl) zk) ?_
      refine WL.val (.int .i64 ((dget st i).var)) rfl rfl rfl (fun za zC zh zk => wp_assign rfl (zh.ev rfl) zk) ?_
      refine WL.val (.pointer (some ⟨pb, po, none⟩)) rfl rfl rfl (fun za zC zh zk => wp_assign rfl (zh.ev rfl) zk) ?_
      refine WL.nil (WE.sub (K' := [(0, .pointer (some ⟨g, 0, none⟩)), (2, .slice none 0 0), (3, .slice x.a x.n x.c), (4, .int .i64 ((dget st i).var)), (5, .pointer (some ⟨pb, po, none⟩)), (7, .bool false), (12, .pointer (some ⟨g2, 0, none⟩)), (14, .bool true)]) ⟨rfl, rfl, rfl, rfl, rfl, rfl, rfl, rfl, trivial⟩ ?_)
      refine WE.next ?_
      refine WC.seq ?_
      have hc35 := bkeeps hb32 _ _ hp1
      have hc36 := bkeeps hb32 _ _ hp2
      refine WC.opt [(true, .val (.pointer (some ⟨pb, po, none⟩))), (true, .val (.pointer (some ⟨pb, po, none⟩))), (true, .val (.pointer (some ⟨pb, po, none⟩))), (true, .val (.int .i64 ((dget st i).t.f))), (true, .val (.int .i64 ((dget st i).var))), (true, .val (.int .i64 ((-1 - (dget st i).var)))), (true, .val (.bool ((((dget st i).t.f : Int) != ((-1 - (dget st i).var) : Int))))), (true, .val (.bool ((((dget st i).t.f : Int) != ((-1 - (dget st i).var) : Int))))), ((true && !(((dget st i).t.f : Int) != ((-1 - (dget st i).var) : Int))), .val (.pointer (some ⟨pb, po, none⟩))), ((true && !(((dget st i).t.f : Int) != ((-1 - (dget st i).var) : Int))), .val (.pointer (some ⟨pb, po, none⟩))), ((true && !(((dget st i).t.f : Int) != ((-1 - (dget st i).var) : Int))), .val (.pointer (some ⟨pb, po + 1, none⟩))), ((true && !(((dget st i).t.f : Int) != ((-1 - (dget st i).var) : Int))), .val (.slice pa ((dget st i).t.args.length) pc)), ((true && !(((dget st i).t.f : Int) != ((-1 - (dget st i).var) : Int))), .val (.int .i64 ((((dget st i).t.args.length : Nat) : Int)))), ((true && !(((dget st i).t.f : Int) != ((-1 - (dget st i).var) : Int))), .val (.bool ((decide ((0 : Int) < ((((dget st i).t.args.length : Nat) : Int) : Int)))))), (true, .val (.bool (((((dget st i).t.f : Int) != ((-1 - (dget st i).var) : Int)) || (decide ((0 : Int) < ((((dget st i).t.args.length : Nat) : Int) : Int)))))))] [(0, .pointer (some ⟨g, 0, none⟩)), (2, .slice none 0 0), (3, .slice x.a x.n x.c), (4, .int .i64 ((dget st i).var)), (5, .pointer (some ⟨pb, po, none⟩)), (7, .bool false), (12, .pointer (some ⟨g2, 0, none⟩)), (14, .bool true)] ⟨rfl, rfl, rfl, rfl, rfl, rfl, rfl, rfl, trivial⟩ (by kernel_rfl) (by kernel_rfl) (by kernel_rfl) ?_ ?_
      · refine ⟨⟨true, .none rfl, fun h w => optUndef h, fun zβ za zw zc => ?_⟩, ?_⟩
        · exact wp_move rfl (zc.kn.ev rfl) ⟨_, rfl, Below.refl _ _, optDef zβ rfl⟩
        refine ⟨⟨true, .none rfl, fun h w => optUndef h, fun zβ za zw zc => ?_⟩, ?_⟩
        · exact nilCheck_ rfl ((show za.eval (.tmp 18) = za.tmps.getD 18 undef from rfl).trans (optVal (zc.dep 0 18 (by kernel_rfl)) rfl rfl)) ⟨_, rfl, Below.refl _ _, optDef zβ rfl⟩
        refine ⟨⟨true, .none rfl, fun h w => optUndef h, fun zβ za zw zc => ?_⟩, ?_⟩
        · exact fld_24_0 rfl ((show za.eval (.tmp 19) = za.tmps.getD 19 undef from rfl).trans (optVal (zc.dep 1 19 (by kernel_rfl)) rfl rfl)) ⟨_, rfl, Below.refl _ _, optDef zβ rfl⟩
        refine ⟨⟨true, .none rfl, fun h w => optUndef h, fun zβ za zw zc => ?_⟩, ?_⟩
        · exact ld_3 rfl ((show za.eval (.tmp 20) = za.tmps.getD 20 undef from rfl).trans (optVal (zc.dep 2 20 (by kernel_rfl)) rfl rfl)) (bkeeps zc.below _ _ hc35) ⟨_, rfl, Below.refl _ _, optDef zβ rfl⟩
        refine ⟨⟨true, .none rfl, fun h w => optUndef h, fun zβ za zw zc => ?_⟩, ?_⟩
        · exact wp_move rfl (zc.kn.ev rfl) ⟨_, rfl, Below.refl _ _, optDef zβ rfl⟩
        refine ⟨⟨true, .none rfl, fun h w => optUndef h, fun zβ za zw zc => ?_⟩, ?_⟩
        · exact subb_3 rfl (zc.kn.ev rfl) ((show za.eval (.tmp 22) = za.tmps.getD 22 undef from rfl).trans (optVal (zc.dep 4 22 (by kernel_rfl)) rfl rfl)) (wrap_eq rfl (by omega) (by omega)) ⟨_, rfl, Below.refl _ _, optDef zβ rfl⟩
        refine ⟨⟨true, .none rfl, fun h w => optUndef h, fun zβ za zw zc => ?_⟩, ?_⟩
        · exact neq_3 rfl ((show za.eval (.tmp 21) = za.tmps.getD 21 undef from rfl).trans (optVal (zc.dep 3 21 (by kernel_rfl)) rfl rfl)) ((show za.eval (.tmp 23) = za.tmps.getD 23 undef from rfl).trans (optVal (zc.dep 5 23 (by kernel_rfl)) rfl rfl)) ⟨_, rfl, Below.refl _ _, optDef zβ rfl⟩
        refine ⟨⟨true, .none rfl, fun h w => optUndef h, fun zβ za zw zc => ?_⟩, ?_⟩
        · exact wp_move rfl ((show za.eval (.tmp 24) = za.tmps.getD 24 undef from rfl).trans (optVal (zc.dep 6 24 (by kernel_rfl)) rfl rfl)) ⟨_, rfl, Below.refl _ _, optDef zβ rfl⟩
        refine ⟨⟨(true && !(((dget st i).t.f : Int) != ((-1 - (dget st i).var) : Int))), .no (c := (((dget st i).t.f : Int) != ((-1 - (dget st i).var) : Int))) (d := true) rfl (fun v w h => h), fun h w => optUndef h, fun zβ za zw zc => ?_⟩, ?_⟩
        · exact wp_move rfl (zc.kn.ev rfl) ⟨_, rfl, Below.refl _ _, optDef zβ rfl⟩
        refine ⟨⟨(true && !(((dget st i).t.f : Int) != ((-1 - (dget st i).var) : Int))), .no (c := (((dget st i).t.f : Int) != ((-1 - (dget st i).var) : Int))) (d := true) rfl (fun v w h => h), fun h w => optUndef h, fun zβ za zw zc => ?_⟩, ?_⟩
        · exact nilCheck_ rfl ((show za.eval (.tmp 26) = za.tmps.getD 26 undef from rfl).trans (optVal (zc.dep 8 26 (by kernel_rfl)) rfl zβ)) ⟨_, rfl, Below.refl _ _, optDef zβ rfl⟩
        refine ⟨⟨(true && !(((dget st i).t.f : Int) != ((-1 - (dget st i).var) : Int))), .no (c := (((dget st i).t.f : Int) != ((-1 - (dget st i).var) : Int))) (d := true) rfl (fun v w h => h), fun h w => optUndef h, fun zβ za zw zc => ?_⟩, ?_⟩
        · exact fld_24_1 rfl ((show za.eval (.tmp 27) = za.tmps.getD 27 undef from rfl).trans (optVal (zc.dep 9 27 (by kernel_rfl)) rfl zβ)) ⟨_, rfl, Below.refl _ _, optDef zβ rfl⟩
        refine ⟨⟨(true && !(((dget st i).t.f : Int) != ((-1 - (dget st i).var) : Int))), .no (c := (((dget st i).t.f : Int) != ((-1 - (dget st i).var) : Int))) (d := true) rfl (fun v w h => h), fun h w => optUndef h, fun zβ za zw zc => ?_⟩, ?_⟩
        · exact ld_22 rfl ((show za.eval (.tmp 28) = za.tmps.getD 28 undef from rfl).trans (optVal (zc.dep 10 28 (by kernel_rfl)) rfl zβ)) (bkeeps zc.below _ _ hc36) ⟨_, rfl, Below.refl _ _, optDef zβ rfl⟩
        refine ⟨⟨(true && !(((dget st i).t.f : Int) != ((-1 - (dget st i).var) : Int))), .no (c := (((dget st i).t.f : Int) != ((-1 - (dget st i).var) : Int))) (d := true) rfl (fun v w h => h), fun h w => optUndef h, fun zβ za zw zc => ?_⟩, ?_⟩
        · exact len_22 rfl ((show za.eval (.tmp 29) = za.tmps.getD 29 undef from rfl).trans (optVal (zc.dep 11 29 (by kernel_rfl)) rfl zβ)) ⟨_, rfl, Below.refl _ _, optDef zβ rfl⟩
        refine ⟨⟨(true && !(((dget st i).t.f : Int) != ((-1 - (dget st i).var) : Int))), .no (c := (((dget st i).t.f : Int) != ((-1 - (dget st i).var) : Int))) (d := true) rfl (fun v w h => h), fun h w => optUndef h, fun zβ za zw zc => ?_⟩, ?_⟩
        · exact gtr_3 rfl ((show za.eval (.tmp 30) = za.tmps.getD 30 undef from rfl).trans (optVal (zc.dep 12 30 (by kernel_rfl)) rfl zβ)) (zc.kn.ev rfl) ⟨_, rfl, Below.refl _ _, optDef zβ rfl⟩
        refine ⟨⟨true, .none rfl, fun h w => optUndef h, fun zβ za zw zc => ?_⟩, ?_⟩
        · exact wp_or rfl ((show za.eval (.tmp 25) = za.tmps.getD 25 undef from rfl).trans (optVal (zc.dep 7 25 (by kernel_rfl)) rfl rfl)) (fun hp => ((show za.eval (.tmp 31) = za.tmps.getD 31 undef from rfl).trans (optVal (zc.dep 13 31 (by kernel_rfl)) rfl (bMkN zβ hp)))) ⟨_, rfl, Below.refl _ _, optDef zβ rfl⟩
        exact trivial
      · intro za w37 zh hb38 zu
        have zh := zh.cons (d := 32) (v := .bool (((((dget st i).t.f : Int) != ((-1 - (dget st i).var) : Int)) || (decide ((0 : Int) < ((((dget st i).t.args.length : Nat) : Int) : Int)))))) (optVal (zu 14 32 (by kernel_rfl)) rfl rfl)
        clear zu
        refine (show WE _ [(0, .pointer (some ⟨g, 0, none⟩)), (2, .slice none 0 0), (3, .slice x.a x.n x.c), (4, .int .i64 ((dget st i).var)), (5, .pointer (some ⟨pb, po, none⟩)), (7, .bool false), (12, .pointer (some ⟨g2, 0, none⟩)), (14, .bool true), (32, .bool (((((dget st i).t.f : Int) != ((-1 - (dget st i).var) : Int)) || (decide ((0 : Int) < ((((dget st i).t.args.length : Nat) : Int) : Int))))))] w37 _ .normal from ?_) za (zh.sub ⟨rfl, rfl, rfl, rfl, rfl, rfl, rfl, rfl, rfl, trivial⟩)
        refine WE.next ?_
        refine WC.cond rfl (fun h39 => ?_) (fun h39 => ?_)
        · have h39 : (((dget st i).t.f : Int) ≠ ((-1 - (dget st i).var) : Int)) ∨ ((0 : Int) < ((((dget st i).t.args.length : Nat) : Int) : Int)) := by simpa using h39
          have ho40 := hR31.below hb38
          have hc41 := bkeeps hb38 _ _ hc35
          have hc42 := bkeeps hb38 _ _ hc36
          have hb43 : Below w.heap.size w w37 := (bstep hb32 hb38)
          have hSlt : ∀ b, (fun b => (Value.slice x.a x.n x.c).ownBlock = some b) b → b < w37.heap.size := fun b h => (ho40.lt b h).2
          have hSlo : ∀ b, (fun b => (Value.slice x.a x.n x.c).ownBlock = some b) b → w1.heap.size ≤ b ∧ b < w23.heap.size := fun b h => hR31.lt b h
          have hBW : w1.heap.size ≤ w37.heap.size := by have z1 := (Nat.le_trans (Nat.le_trans hBw (Nat.le_of_eq hu24.size.symm)) hb38.size); omega
          have hlL : x.n = ((told st x.done)).length := ho40.len
          refine WC.tail3 (S := ((fun b => (Value.slice x.a x.n x.c).ownBlock = some b))) [(true, .val (.slice x.a x.n x.c)), (true, .val (.int .i64 ((dget st i).var))), (true, .val (.pointer (some ⟨pb, po, none⟩))), (true, .val (.pointer (some ⟨pb, po, none⟩))), (true, .val (.agg #[.int .i64 ((dget st i).t.f), .slice pa ((dget st i).t.args.length) pc])), (true, .mem (fun v w' => NewT w37 w' ((dget st i).t) v) (fun v w w' hc h => InT.chg h hc (fun b hb hs => by have z := hSlt b hs; omega))), (true, .mem (fun v w' => BdNew w37 w' ((dget st i)) v) (fun v w w' hc h => h.chg hc hSlt)), (true, .mem (fun v w' => OneRow eltB w37 57 ((dget st i)) v w') (fun v w w' hc h => h.chg hc hSlt)), (true, .val undef), (true, .val undef)] [(0, .pointer (some ⟨g, 0, none⟩)), (2, .slice none 0 0), (4, .int .i64 ((dget st i).var)), (5, .pointer (some ⟨pb, po, none⟩)), (7, .bool false), (12, .pointer (some ⟨g2, 0, none⟩)), (14, .bool true), (32, .bool (((((dget st i).t.f : Int) != ((-1 - (dget st i).var) : Int)) || (decide ((0 : Int) < ((((dget st i).t.args.length : Nat) : Int) : Int))))))] 8 9 ((x.n + 1)) 41 3 (fun ra rc wz => RowE eltB wz w1.heap.size 57 ra rc (x.n + 1) ((told st x.done ++ [(dget st i)]))) (by decide) (fun ra rc w w' hb h => h.below hb) ⟨rfl, rfl, rfl, rfl, rfl, rfl, rfl, rfl, trivial⟩ (by kernel_rfl) (by kernel_rfl) (by kernel_rfl) (by kernel_rfl) (by kernel_rfl) (by kernel_rfl) ?_ ?_
          · refine ⟨.inl ⟨rfl, true, .none rfl, (fun gg b h => by cases h), fun h w => optUndef h, fun zβ za zw zc => ?_⟩, ?_⟩
            · exact wp_move rfl ((show za.eval (.tmp 3) = za.tmps.getD 3 undef from rfl).trans (zc.old 3 _ rfl (by kernel_rfl))) ⟨_, rfl, Below.refl _ _, optDef zβ rfl⟩
            refine ⟨.inl ⟨rfl, true, .none rfl, (fun gg b h => by cases h), fun h w => optUndef h, fun zβ za zw zc => ?_⟩, ?_⟩
            · exact wp_move rfl (zc.kn.ev rfl) ⟨_, rfl, Below.refl _ _, optDef zβ rfl⟩
            refine ⟨.inl ⟨rfl, true, .none rfl, (fun gg b h => by cases h), fun h w => optUndef h, fun zβ za zw zc => ?_⟩, ?_⟩
            · exact wp_move rfl (zc.kn.ev rfl) ⟨_, rfl, Below.refl _ _, optDef zβ rfl⟩
            refine ⟨.inl ⟨rfl, true, .none rfl, (fun gg b h => by cases h), fun h w => optUndef h, fun zβ za zw zc => ?_⟩, ?_⟩
            · exact nilCheck_ rfl ((show za.eval (.tmp 35) = za.tmps.getD 35 undef from rfl).trans (optSVal (zc.dep 2 35 (by kernel_rfl) (by decide)) rfl rfl)) ⟨_, rfl, Below.refl _ _, optDef zβ rfl⟩
            refine ⟨.inl ⟨rfl, true, .none rfl, (fun gg b h => by cases h), fun h w => optUndef h, fun zβ za zw zc => ?_⟩, ?_⟩
            · exact ld_24 rfl ((show za.eval (.tmp 36) = za.tmps.getD 36 undef from rfl).trans (optSVal (zc.dep 3 36 (by kernel_rfl) (by decide)) rfl rfl)) (bkeeps (zc.early (by kernel_rfl)) _ _ hc41) (bkeeps (zc.early (by kernel_rfl)) _ _ hc42) ⟨_, rfl, Below.refl _ _, optDef zβ rfl⟩
            refine ⟨.inl ⟨rfl, true, .none rfl, (fun gg b h => by cases h), fun h w => optUndef h, fun zβ za zw zc => ?_⟩, ?_⟩
            · exact wp_call (by kernel_rfl) rfl (hv1 ((show za.eval (.tmp 37) = za.tmps.getD 37 undef from rfl).trans (optSVal (zc.dep 4 37 (by kernel_rfl) (by decide)) rfl rfl))) (copy_any (dget st i).t _ _ hszi (IsT.below (bstep hb43 (zc.early (by kernel_rfl))) hp3)) (fun v w' h => ⟨v, rfl, h.2, optDef zβ (InT.mono (fun b hb _ => Nat.le_trans (zc.early (by kernel_rfl)).size hb) h.1)⟩)
            refine ⟨.inl ⟨rfl, true, .none rfl, (fun gg b h => by cases h), fun h w => optUndef h, fun zβ za zw zc => ?_⟩, ?_⟩
            · have zv := (optSMem (zc.dep 5 38 (by kernel_rfl) (by decide)) rfl rfl)
              obtain ⟨_, a1, c1, e1, _⟩ := zv.form
              rw [e1] at zv
              exact build_57_0_1 rfl ((show za.eval (.tmp 34) = za.tmps.getD 34 undef from rfl).trans (optSVal (zc.dep 1 34 (by kernel_rfl) (by decide)) rfl rfl)) ((show za.eval (.tmp 38) = za.tmps.getD 38 undef from rfl).trans e1) ⟨_, rfl, Below.refl _ _, optDef zβ ⟨_, _, rfl, hi64, zv⟩⟩
            refine ⟨.inl ⟨rfl, true, .none rfl, (fun gg b h => by cases h), fun h w => optUndef h, fun zβ za zw zc => ?_⟩, ?_⟩
            · have zv := (optSMem (zc.dep 6 39 (by kernel_rfl) (by decide)) rfl rfl)
              obtain ⟨u1, u2, e1, h0, zv⟩ := zv
              exact row_26_1 rfl ((show za.eval (.tmp 39) = za.tmps.getD 39 undef from rfl).trans e1) ⟨_, rfl, balloc _ _, optDef zβ ⟨_, _, rfl, zc.chg.size, Blk.new' rfl, ⟨_, _, rfl, h0, zv.below (balloc _ _)⟩⟩⟩
            refine ⟨.inr (.inl ⟨rfl, rfl, fun za zw zc => ?_⟩), ?_⟩
            · obtain ⟨g1, cs, e1, hg1, hB1, hin⟩ := (optSMem (zc.dep 7 40 (by kernel_rfl) (by decide)) rfl rfl)
              exact wp_appE (E := eltB) (size := 3) (bytes := 40) (z := .agg #[.int .i64 0, .int .i64 0, .slice none 0 0]) rfl Try.underlying26 (by kernel_rfl) rfl (by decide) rfl ((show za.eval (.tmp 33) = za.tmps.getD 33 undef from rfl).trans (optSVal (zc.dep 0 33 (by kernel_rfl) (by decide)) rfl rfl)) ((show za.eval (.tmp 40) = za.tmps.getD 40 undef from rfl).trans e1) (ho40.below zc.below) hB1 (eltB.mono (fun b hb _ => ⟨by omega, fun e => by have z := (ho40.lt b e).2; omega⟩) hin) (by omega) (by omega) (by have z := zc.below.size; omega) (fun ra rc w' h1 h2 _ => ⟨ra, rc, rfl, h1, h2⟩)
            refine ⟨.inr (.inr ⟨rfl, rfl, 41, by kernel_rfl, rfl⟩), ?_⟩
            exact trivial
          · intro za w44 ra47 rc48 zh zv zv2 hG45 hc46 zu
            have zh := zh.cons (d := 3) zv2
            have hB49 := hB33.below hb38
            have ho50 := ho34.below hb38
            have ho51 := hI25.below hb38
            have hb52 := chg_below hb43 hc46 (fun b hb => (fun h => by have h := hSlo _ h; (try dsimp only at *); omega))
            have hB53 := chg_blk hB49 hc46 (fun h => by have h := hSlo _ h; (try dsimp only at *); omega)
            have ho54 := ho50.chg hc46 (fun h => by have h := hSlo _ h; (try dsimp only at *); omega)
            have ho55 := ho51.chg hc46 (fun h => by have h := hSlo _ h; (try dsimp only at *); omega)
            clear zu
            refine (show WE _ [(0, .pointer (some ⟨g, 0, none⟩)), (2, .slice none 0 0), (3, .slice ra47 ((x.n + 1)) rc48), (4, .int .i64 ((dget st i).var)), (5, .pointer (some ⟨pb, po, none⟩)), (7, .bool false), (12, .pointer (some ⟨g2, 0, none⟩)), (14, .bool true), (32, .bool (((((dget st i).t.f : Int) != ((-1 - (dget st i).var) : Int)) || (decide ((0 : Int) < ((((dget st i).t.args.length : Nat) : Int) : Int))))))] w44 _ .normal from ?_) za (zh.sub ⟨rfl, rfl, rfl, rfl, rfl, rfl, rfl, rfl, rfl, trivial⟩)
            refine WE.blockNormal ?_
            refine WE.round (⟨x.done ++ [y], rest2, seen2, ra47, rc48, (x.n + 1)⟩) ⟨rfl, rfl, rfl, rfl, rfl, trivial⟩ ?_ ?_
            · exact ⟨(Nat.le_trans (Nat.le_trans (Nat.le_trans hBw (Nat.le_of_eq hu24.size.symm)) hb38.size) hc46.size), hIt2, hb52, hB53, ho54, ho55, (by rw [told_new hbd (fun q => by have z := itself_iff.1 q; omega)]; exact hG45)⟩
            · exact hrl
        · have h39 : ¬ ((((dget st i).t.f : Int) ≠ ((-1 - (dget st i).var) : Int)) ∨ ((0 : Int) < ((((dget st i).t.args.length : Nat) : Int) : Int))) := by simpa using h39
          refine WC.skip ?_
          refine WE.blockNormal ?_
          refine WE.round (⟨x.done ++ [y], rest2, seen2, x.a, x.c, x.n⟩) ⟨rfl, rfl, rfl, rfl, rfl, trivial⟩ ?_ ?_
          · have hb56 : Below w.heap.size w w37 := (bstep hb32 hb38)
            have hB57 := hB33.below hb38
            have ho58 := ho34.below hb38
            have ho59 := hI25.below hb38
            have ho60 := hR31.below hb38
            exact ⟨(Nat.le_trans (Nat.le_trans hBw (Nat.le_of_eq hu24.size.symm)) hb38.size), hIt2, hb56, hB57, ho58, ho59, (by rw [told_self hbd (itself_iff.2 (by omega))]; exact ho60)⟩
          · exact hrl

theorem msubNil (w : World) : Calls Try.prog 23 #[.pointer none] w (Ret fun v' w' => v' = .slice none 0 0 ∧ Below w.heap.size w w') := by
  refine Calls.walk (l := [.pointer none]) Try.func23 rfl (by kernel_rfl) ?_
  refine WC.sub (K' := [(0, .pointer none)]) ⟨rfl, trivial⟩ ?_
  refine WC.seq ?_
  refine WC.region ?_
  refine WL.val (.slice none 0 0) rfl rfl rfl (fun za zC zh zk => wp_assign rfl (zh.ev rfl) zk) ?_
  refine WL.nil (WE.sub (K' := [(0, .pointer none), (2, .slice none 0 0)]) ⟨rfl, rfl, trivial⟩ ?_)
  refine WE.next ?_
  refine WC.seq ?_
  refine WC.seq ?_
  refine WC.region ?_
  refine WL.val (.pointer none) rfl rfl rfl (fun za zC zh zk => wp_move rfl (zh.ev rfl) zk) ?_
  refine WL.val (.bool true) rfl rfl rfl (fun za zC zh zk => eqln_33 rfl (zh.ev rfl) (zh.ev rfl) zk) ?_
  refine WL.nil (WE.sub (K' := [(0, .pointer none), (2, .slice none 0 0), (7, .bool true)]) ⟨rfl, rfl, rfl, trivial⟩ ?_)
  refine WE.next ?_
  refine WC.condT rfl rfl ?_
  refine WC.seq ?_
  refine WC.region ?_
  refine WL.val (.slice none 0 0) rfl rfl rfl (fun za zC zh zk => wp_assign rfl (zh.ev rfl) zk) ?_
  refine WL.nil (WE.sub (K' := [(0, .pointer none), (2, .slice none 0 0), (7, .bool true)]) ⟨rfl, rfl, rfl, trivial⟩ ?_)
  refine WE.next ?_
  refine WC.ret ?_
  refine WE.thenRet ?_
  refine WE.ret1 rfl rfl ?_
  exact ⟨_, rfl, rfl, (Below.refl _ _)⟩

end Go.Proofs.Ytcmfjnadjddboaa
