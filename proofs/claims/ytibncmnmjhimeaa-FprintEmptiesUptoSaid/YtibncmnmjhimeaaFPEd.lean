/- What an index tells: the program. -/
import Derived.Test.YtibncmnmjhimeaaFPEb
import Derived.Test.YtibncmnmjhimeaaFPEc

/- An index is made, added to: the program. -/
namespace Go.Proofs.Ytibncmnmjhimeaa
open Go.RowKit Go
set_option linter.unusedVariables false
set_option linter.unusedSimpArgs false
section
variable {w : World} {a : Act} {K : Act → World → Prop} {Q : Exit → Act → World → Prop} {o : Oper}
theorem wp_neqm {x y : Operand} {r : Nat} (ho : o.op = .binOp .neq 46 x y 46) (hx : a.eval x = .map (some r)) (hy : a.eval y = .map none) (hK : K (a.put o.dst (.bool true)) w) : o.wp Try.prog a w K Q := by
 have um := Try.underlying46
 have he : (Op.equal 46 (.map (some r)) (.map none)).run Try.prog w = .ok false w := by
  unfold Op.equal
  rw [show Op.maxDepth = 9999 + 1 from rfl]
  generalize (9999 : Nat) = n
  simp [Op.equalIn, run_underlying um, go_sem]
 have hb : (binOp .neq 46 (.map (some r)) (.map none)).run Try.prog w = .ok (.bool true) w := by
  simp [binOp, he]
 unfold Oper.wp execOp
 simp only [ho, hx, hy, Sem.run_bind, hb, Result.andThen_ok]
 go_simp
 exact hK
end
set_option maxRecDepth 100000 in
theorem fok_any (g : Nat) (Z : Nat → Prop) (B : List TI) (w : World) (hK : FpIs w g Z B) : Calls Try.prog 24 #[.pointer (some ⟨g, 0, none⟩)] w (Ret fun v' w' => v' = .bool true ∧ Below w.heap.size w w') := by
 skip
 have hK0 := hK
 obtain ⟨m, es, clock, KL, S9, hO, hZ, hZl⟩ := hK0
 refine Calls.walk (l := [.pointer (some ⟨g, 0, none⟩)]) Try.func24 rfl (by kernel_rfl) ?_
 refine WC.sub (K' := [(0, .pointer (some ⟨g, 0, none⟩))]) ⟨rfl, trivial⟩ ?_
 refine WC.seq (WC.region (WL.asg rfl rfl rfl rfl rfl (WL.nil (WE.next (WC.seq ?_)))))
 refine WC.opt [(true, .val (.pointer (some ⟨g, 0, none⟩))), (true, .val (.bool true)), (true, .val (.bool true)), ((true && true), .val (.pointer (some ⟨g, 0, none⟩))), ((true && true), .val (.pointer (some ⟨g, 0, none⟩))), ((true && true), .val (.pointer (some ⟨g, 0, none⟩))), ((true && true), .val (.map ((some m)))), ((true && true), .val (.bool true)), (true, .val (.bool true)), (true, .val (.bool true))] [(0, .pointer (some ⟨g, 0, none⟩))] ⟨rfl, trivial⟩ (by kernel_rfl) (by kernel_rfl) (by kernel_rfl) ?_ ?_
 ·refine ⟨⟨true, .none rfl, fun h w => optUndef h, fun zβ za zw zc => ?_⟩, ?_⟩
  ·exact wp_move rfl (zc.kn.ev rfl) ⟨_, rfl, Below.refl _ _, optDef zβ rfl⟩
  refine ⟨⟨true, .none rfl, fun h w => optUndef h, fun zβ za zw zc => ?_⟩, ?_⟩
  ·exact neqp_27 rfl ((evt za 3).trans (optVal (zc.dep 0 3 (by kernel_rfl)) rfl rfl)) (zc.kn.ev rfl) ⟨_, rfl, Below.refl _ _, optDef zβ rfl⟩
  refine ⟨⟨true, .none rfl, fun h w => optUndef h, fun zβ za zw zc => ?_⟩, ?_⟩
  ·exact wp_move rfl ((evt za 4).trans (optVal (zc.dep 1 4 (by kernel_rfl)) rfl rfl)) ⟨_, rfl, Below.refl _ _, optDef zβ rfl⟩
  refine ⟨⟨_, .yes (d := true) rfl (fun v w h => h), fun h w => optUndef h, fun zβ za zw zc => ?_⟩, ?_⟩
  ·exact wp_move rfl (zc.kn.ev rfl) ⟨_, rfl, Below.refl _ _, optDef zβ rfl⟩
  refine ⟨⟨_, .yes (d := true) rfl (fun v w h => h), fun h w => optUndef h, fun zβ za zw zc => ?_⟩, ?_⟩
  ·exact nilCheck_ rfl ((evt za 6).trans (optVal (zc.dep 3 6 (by kernel_rfl)) rfl rfl)) ⟨_, rfl, Below.refl _ _, optDef zβ rfl⟩
  refine ⟨⟨_, .yes (d := true) rfl (fun v w h => h), fun h w => optUndef h, fun zβ za zw zc => ?_⟩, ?_⟩
  ·exact fld_48_0 rfl ((evt za 7).trans (optVal (zc.dep 4 7 (by kernel_rfl)) rfl rfl)) ⟨_, rfl, Below.refl _ _, optDef zβ rfl⟩
  refine ⟨⟨_, .yes (d := true) rfl (fun v w h => h), fun h w => optUndef h, fun zβ za zw zc => ?_⟩, ?_⟩
  ·exact ld_46 rfl ((evt za 8).trans (optVal (zc.dep 5 8 (by kernel_rfl)) rfl rfl)) (bkeeps zc.below _ _ hO.c0) ⟨_, rfl, Below.refl _ _, optDef zβ rfl⟩
  refine ⟨⟨_, .yes (d := true) rfl (fun v w h => h), fun h w => optUndef h, fun zβ za zw zc => ?_⟩, ?_⟩
  ·exact wp_neqm rfl ((evt za 9).trans (optVal (zc.dep 6 9 (by kernel_rfl)) rfl rfl)) (zc.kn.ev rfl) ⟨_, rfl, Below.refl _ _, optDef zβ rfl⟩
  refine ⟨⟨true, .none rfl, fun h w => optUndef h, fun zβ za zw zc => ?_⟩, ?_⟩
  ·exact wp_pickT rfl ((evt za 5).trans (optVal (zc.dep 2 5 (by kernel_rfl)) rfl rfl)) ((evt za 10).trans (optVal (zc.dep 7 10 (by kernel_rfl)) rfl rfl)) ⟨_, rfl, Below.refl _ _, optDef zβ rfl⟩
  refine ⟨⟨true, .none rfl, fun h w => optUndef h, fun zβ za zw zc => ?_⟩, ?_⟩
  ·exact wp_assign rfl ((evt za 11).trans (optVal (zc.dep 8 11 (by kernel_rfl)) rfl rfl)) ⟨_, rfl, Below.refl _ _, optDef zβ rfl⟩
  exact trivial
 ·intro za w1 zh hb2 zu
  have zh := zh.cons (d := 2) (v := .bool true) (optVal (zu 9 2 (by kernel_rfl)) rfl rfl)
  clear zu
  refine WE.go zh ?_
  refine WE.next (WC.ret (WE.ret1 rfl rfl ?_))
  exact ⟨_, rfl, rfl, hb2⟩
set_option maxRecDepth 100000 in
theorem flen_any (g : Nat) (Z : Nat → Prop) (B : List TI) (w : World) (hK : FpIs w g Z B) : Calls Try.prog 18 #[.pointer (some ⟨g, 0, none⟩)] w (Ret fun v' w' => v' = .int .i64 ((B.length : Nat) : Int) ∧ Below w.heap.size w w') := by
 skip
 have hK0 := hK
 obtain ⟨m, es, clock, KL, S9, hO, hZ, hZl⟩ := hK0
 refine Calls.walk (l := [.pointer (some ⟨g, 0, none⟩)]) Try.func18 rfl (by kernel_rfl) ?_
 refine WC.sub (K' := [(0, .pointer (some ⟨g, 0, none⟩))]) ⟨rfl, trivial⟩ ?_
 refine WC.seq (WC.region (WL.asg rfl rfl rfl rfl rfl (WL.nil (WE.next (WC.seq (WC.seq (WC.region (WL.mv rfl rfl rfl rfl rfl ?_))))))))
 refine WL.call rfl rfl rfl (fun za zh zC => wp_call (by kernel_rfl) rfl (hv1 (zh.ev rfl))) (fok_any g Z B _ (FpIs.below hK (Below.refl _ _))) ?_
 rintro _ w2 ⟨rfl, hq1⟩
 refine WL.val (.bool false) rfl rfl rfl (fun za zC zh zk => wp_not rfl (zh.ev rfl) zk) ?_
 refine WL.nil (WE.next ?_)
 refine WC.condF rfl rfl ?_
 refine WC.skip (WE.next (WC.seq (WC.region (WL.mv rfl rfl rfl rfl rfl ?_))))
 refine WL.val _ rfl rfl rfl (fun za zC zh zk => nilCheck_ rfl (zh.ev rfl) zk) ?_
 refine WL.val _ rfl rfl rfl (fun za zC zh zk => fld_48_1 rfl (zh.ev rfl) zk) ?_
 have hc3 := bkeeps hq1 _ _ hO.c1
 refine WL.val _ rfl rfl rfl (fun za zC zh zk => ld_3 rfl (zh.ev rfl) hc3 zk) ?_
 refine WL.asg rfl rfl rfl rfl rfl (WL.nil (WE.next (WC.ret (WE.ret1 rfl rfl ?_))))
 exact ⟨_, rfl, rfl, hq1⟩
set_option maxRecDepth 100000 in
theorem fnew_any (w : World) : Calls Try.prog 8 #[] w (Ret fun v' w' => (∃ g : Nat, v' = .pointer (some ⟨g, 0, none⟩) ∧ FpIs w' g (fun b => w.heap.size ≤ b ∧ b < w'.heap.size) []) ∧ Below w.heap.size w w') := by
 refine Calls.walk (l := []) Try.func8 rfl (by kernel_rfl) ?_
 refine WC.sub (K' := []) trivial ?_
 refine WC.seq (WC.region (WL.asg rfl rfl rfl rfl rfl (WL.nil (WE.next (WC.seq (WC.region ?_))))))
 refine WL.step (post := NewMap w) rfl rfl rfl (fun za zC zh zk => wp_makeMap_im rfl (fun v w' h => zk v w' h)) ?_
 rintro _ w1 ⟨m2, rfl, hg4, hM3, hb5, hz6⟩
 have hl7 : w.heap.size ≤ m2 := by omega
 refine WL.val (.agg #[.map ((some m2)), .int .i64 0]) rfl rfl rfl (fun za zC zh zk => build_48_0 rfl (zh.ev rfl) zk) ?_
 refine WL.step (post := NewBlk w1 48 #[.map ((some m2)), .int .i64 0]) rfl rfl rfl (fun za zC zh zk => box_48 rfl (zh.ev rfl) (zk _ _ (newBlk _ _ _))) ?_
 rintro _ w8 ⟨g9, rfl, hg10, hB11, hb12, hz13⟩
 have hl14 : m2 < g9 := by have z1 := hM3.lt; omega
 have hl15 : w.heap.size ≤ g9 := by have z2 := (hb5).size; omega
 refine WL.asg rfl rfl rfl rfl rfl (WL.nil (WE.next (WC.ret (WE.ret1 rfl rfl ?_))))
 have ho16 := hM3.below hb12
 have hb17 : Below w.heap.size w w8 := (bstep hb5 hb12)
 have hgl := hB11.lt
 have hml := ObjAt.lt ho16
 refine ⟨_, rfl, ⟨g9, rfl, m2, #[], 0, [], fun _ => False, ⟨hB11, ho16, GmE.nil, .nil, fun x hx => (nomatch hx), fun x hx => (nomatch hx), fun r hr => (nomatch hr), fun x hx => (nomatch hx), fun x hx => (nomatch hx), fun b q => q.elim, fun r hr => (nomatch hr)⟩, fun b q => ?_, fun b q => q.2⟩, hb17⟩
 rcases q with q | q | q | ⟨x, hx, _⟩
 ·exact ⟨by omega, by omega⟩
 ·exact ⟨by omega, by omega⟩
 ·exact q.elim
 ·cases hx
set_option maxRecDepth 100000 in
theorem fadd_no (g : Nat) (Z : Nat → Prop) (B : List TI) (w : World) (v : Value) (f : Int) (ta : Option Addr) (tn tc : Nat) (id : Int) (hid : id < 0) (hK : FpIs w g Z B) : Calls Try.prog 9 #[.pointer (some ⟨g, 0, none⟩), .agg #[.int .i64 f, .slice ta tn tc], .int .i64 id] w (Ret fun v' w' => v' = .int .i64 2 ∧ Below w.heap.size w w') := by
 skip
 refine Calls.walk (l := [.pointer (some ⟨g, 0, none⟩), .agg #[.int .i64 f, .slice ta tn tc], .int .i64 id]) Try.func9 rfl (by kernel_rfl) ?_
 refine WC.sub (K' := [(0, .pointer (some ⟨g, 0, none⟩)), (1, .agg #[.int .i64 f, .slice ta tn tc]), (2, .int .i64 id)]) ⟨rfl, rfl, rfl, trivial⟩ ?_
 refine WC.seq (WC.region ?_)
 refine WL.step (post := NewBlk w 24 #[.int .i64 f, .slice ta tn tc]) rfl rfl rfl (fun za zC zh zk => box_24 rfl (zh.ev rfl) (zk _ _ (newBlk _ _ _))) ?_
 rintro _ w1 ⟨g2, rfl, hg3, hB4, hb5, hz6⟩
 have hl7 : w.heap.size ≤ g2 := by omega
 refine WL.asg rfl rfl rfl rfl rfl (WL.nil (WE.next (WC.seq (WC.block (WC.seq (WC.region (WL.mv rfl rfl rfl rfl rfl ?_)))))))
 refine WL.call rfl rfl rfl (fun za zh zC => wp_call (by kernel_rfl) rfl (hv1 (zh.ev rfl))) (fok_any g Z B _ (FpIs.below hK hb5)) ?_
 rintro _ w9 ⟨rfl, hq8⟩
 refine WL.val (.bool false) rfl rfl rfl (fun za zC zh zk => wp_not rfl (zh.ev rfl) zk) ?_
 refine WL.asg rfl rfl rfl rfl rfl (WL.nil (WE.next ?_))
 refine WC.condF rfl rfl ?_
 refine WC.seq (WC.region (WL.mv rfl rfl rfl rfl rfl ?_))
 refine WL.val (.bool ((decide ((id : Int) < (0 : Int))))) rfl rfl rfl (fun za zC zh zk => lss_3 rfl (zh.ev rfl) (zh.ev rfl) zk) ?_
 refine WL.asg rfl rfl rfl rfl rfl (WL.nil (WE.next ?_))
 refine WC.condT rfl ((by simpa using hid)) ?_
 refine WC.seq (WC.region (WL.asg rfl rfl rfl rfl rfl (WL.nil (WE.next (WC.ret (WE.blockRet (WE.thenRet (WE.ret1 rfl rfl ?_))))))))
 have hb10 : Below w.heap.size w w9 := (bstep hb5 hq8)
 exact ⟨_, rfl, rfl, hb10⟩
theorem vlen6 {vals : List Value} (h : vals.length = 6) : ∃ a b c d e f, vals = [a, b, c, d, e, f] := by
 obtain _ | ⟨a, _ | ⟨b, _ | ⟨c, _ | ⟨d, _ | ⟨e, _ | ⟨f, _ | ⟨g, l⟩⟩⟩⟩⟩⟩⟩ := vals <;> simp_all
theorem zeroRows (w : World) : (zeroValue 52).run Try.prog w = .ok (.slice none 0 0) w := by
 have u := Try.underlying52
 have hi : (Try.prog.info? 52).map (fun i => i.zero) = some (some (.slice none 0 0)) := by kernel_rfl
 go_simp
set_option maxRecDepth 100000 in
theorem fadd_any (g : Nat) (Z : Nat → Prop) (B : List TI) (w : World) (t : T) (v : Value) (id : Int) (hid : 0 ≤ id) (hi64 : I64 id) (hz : t.size ≤ 4294967296) (hBl : B.length ≤ 1000000) (ht : IsT w t v) (hK : FpIs w g Z B) :
  Calls Try.prog 9 #[.pointer (some ⟨g, 0, none⟩), v, .int .i64 id] w (Ret fun v' w' => v' = .int .i64 0 ∧ (∃ Z', FpIs w' g Z' (B ++ [(t, id)]) ∧ ∀ b, Z' b → Z b ∨ w.heap.size ≤ b) ∧ Chg Z w w') := by
 have hvt := ht
 obtain ⟨_, ta, tc, rfl, _, _, _⟩ := ht.form
 skip
 have hK0 := hK
 obtain ⟨m, es, clock, KL, S9, hO, hZ, hZl⟩ := hK0
 obtain ⟨a, c, hlk, hrw, hown, _⟩ := hO.look (prt t)
 have hbl : (bag B (prt t)).length ≤ B.length := List.length_filter_le _ _
 obtain ⟨st, hst⟩ : ∃ st, st = gmStamp es clock (KL.map bkV) (prt t) := ⟨_, rfl⟩
 refine Calls.walk (l := [.pointer (some ⟨g, 0, none⟩), .agg #[.int .i64 t.f, .slice ta t.args.length tc], .int .i64 id]) Try.func9 rfl (by kernel_rfl) ?_
 refine WC.sub (K' := [(0, .pointer (some ⟨g, 0, none⟩)), (1, .agg #[.int .i64 t.f, .slice ta t.args.length tc]), (2, .int .i64 id)]) ⟨rfl, rfl, rfl, trivial⟩ ?_
 refine WC.seq (WC.region ?_)
 refine WL.step (post := NewBlk w 24 #[.int .i64 t.f, .slice ta t.args.length tc]) rfl rfl rfl (fun za zC zh zk => box_24 rfl (zh.ev rfl) (zk _ _ (newBlk _ _ _))) ?_
 rintro _ w1 ⟨g2, rfl, hg3, hB4, hb5, hz6⟩
 have hl7 : w.heap.size ≤ g2 := by omega
 refine WL.asg rfl rfl rfl rfl rfl (WL.nil (WE.next (WC.seq (WC.block (WC.seq (WC.region (WL.mv rfl rfl rfl rfl rfl ?_)))))))
 refine WL.call rfl rfl rfl (fun za zh zC => wp_call (by kernel_rfl) rfl (hv1 (zh.ev rfl))) (fok_any g Z B _ (FpIs.below hK hb5)) ?_
 rintro _ w9 ⟨rfl, hq8⟩
 refine WL.val (.bool false) rfl rfl rfl (fun za zC zh zk => wp_not rfl (zh.ev rfl) zk) ?_
 refine WL.asg rfl rfl rfl rfl rfl (WL.nil (WE.next ?_))
 refine WC.condF rfl rfl ?_
 refine WC.seq (WC.region (WL.mv rfl rfl rfl rfl rfl ?_))
 refine WL.val (.bool ((decide ((id : Int) < (0 : Int))))) rfl rfl rfl (fun za zC zh zk => lss_3 rfl (zh.ev rfl) (zh.ev rfl) zk) ?_
 refine WL.asg rfl rfl rfl rfl rfl (WL.nil (WE.next ?_))
 refine WC.condF rfl ((by simp; omega)) ?_
 refine WC.skip (WE.blockNormal (WE.next (WC.seq (WC.region ?_))))
 have hB10 := hB4.below hq8
 refine WL.val _ rfl rfl rfl (fun za zC zh zk => ld_24 rfl (zh.ev rfl) ((hB10.cell 0).trans rfl) ((hB10.cell 1).trans rfl) zk) ?_
 have hb11 : Below w.heap.size w w9 := (bstep hb5 hq8)
 refine WL.call rfl rfl rfl (fun za zh zC => wp_call (by kernel_rfl) rfl (hv1 (zh.ev rfl))) (of_any t _ _ (IsT.below hb11 hvt)) ?_
 rintro _ w12 ⟨rfl, hbo⟩
 refine WL.step (post := NewBlk w12 50 #[.int .i64 0, .int .i64 0, .int .i64 0, .int .i64 0, .int .i64 0, .int .i64 0, .int .i64 0, .int .i64 0]) rfl rfl rfl (fun za zC zh zk => alloc_50 rfl (zk _ _ (newBlk _ _ _))) ?_
 rintro _ w13 ⟨g14, rfl, hg15, hB16, hb17, hz18⟩
 have hl19 : g2 < g14 := by have z1 := hB10.lt; have z2 := (hbo).size; omega
 have hb20 : Below w.heap.size w w12 := (bstep hb11 hbo)
 have hl21 : w.heap.size ≤ g14 := by have z2 := (hb20).size; omega
 refine WL.step (post := fun _ w' => Upd g14 w13 w' ∧ Blk w' g14 50 #[.int .i64 ((ltr t [])), .int .i64 ((ltr t [0])), .int .i64 ((ltr t [1])), .int .i64 ((ltr t [2])), .int .i64 ((ltr t [0, 0])), .int .i64 ((ltr t [0, 1])), .int .i64 ((ltr t [1, 0])), .int .i64 ((ltr t [1, 1]))]) rfl rfl rfl (fun za zC zh zk => st_50 rfl (zh.ev rfl) (zh.ev rfl) rfl rfl rfl rfl rfl rfl rfl rfl hB16 (by first | decide | simp) (fun v => by have zb0 : Blk _ g14 50 #[.int .i64 ((ltr t [])), .int .i64 0, .int .i64 0, .int .i64 0, .int .i64 0, .int .i64 0, .int .i64 0, .int .i64 0] := hB16.set_ 0 _; have zb1 : Blk _ g14 50 #[.int .i64 ((ltr t [])), .int .i64 ((ltr t [0])), .int .i64 0, .int .i64 0, .int .i64 0, .int .i64 0, .int .i64 0, .int .i64 0] := zb0.set_ 1 _; have zb2 : Blk _ g14 50 #[.int .i64 ((ltr t [])), .int .i64 ((ltr t [0])), .int .i64 ((ltr t [1])), .int .i64 0, .int .i64 0, .int .i64 0, .int .i64 0, .int .i64 0] := zb1.set_ 2 _; have zb3 : Blk _ g14 50 #[.int .i64 ((ltr t [])), .int .i64 ((ltr t [0])), .int .i64 ((ltr t [1])), .int .i64 ((ltr t [2])), .int .i64 0, .int .i64 0, .int .i64 0, .int .i64 0] := zb2.set_ 3 _; have zb4 : Blk _ g14 50 #[.int .i64 ((ltr t [])), .int .i64 ((ltr t [0])), .int .i64 ((ltr t [1])), .int .i64 ((ltr t [2])), .int .i64 ((ltr t [0, 0])), .int .i64 0, .int .i64 0, .int .i64 0] := zb3.set_ 4 _; have zb5 : Blk _ g14 50 #[.int .i64 ((ltr t [])), .int .i64 ((ltr t [0])), .int .i64 ((ltr t [1])), .int .i64 ((ltr t [2])), .int .i64 ((ltr t [0, 0])), .int .i64 ((ltr t [0, 1])), .int .i64 0, .int .i64 0] := zb4.set_ 5 _; have zb6 : Blk _ g14 50 #[.int .i64 ((ltr t [])), .int .i64 ((ltr t [0])), .int .i64 ((ltr t [1])), .int .i64 ((ltr t [2])), .int .i64 ((ltr t [0, 0])), .int .i64 ((ltr t [0, 1])), .int .i64 ((ltr t [1, 0])), .int .i64 0] := zb5.set_ 6 _; have zb7 : Blk _ g14 50 #[.int .i64 ((ltr t [])), .int .i64 ((ltr t [0])), .int .i64 ((ltr t [1])), .int .i64 ((ltr t [2])), .int .i64 ((ltr t [0, 0])), .int .i64 ((ltr t [0, 1])), .int .i64 ((ltr t [1, 0])), .int .i64 ((ltr t [1, 1]))] := zb6.set_ 7 _; exact zk v _ ⟨(((((((Upd.at_ _ _ _ _).trans (Upd.at_ _ _ _ _)).trans (Upd.at_ _ _ _ _)).trans (Upd.at_ _ _ _ _)).trans (Upd.at_ _ _ _ _)).trans (Upd.at_ _ _ _ _)).trans (Upd.at_ _ _ _ _)).trans (Upd.at_ _ _ _ _), zb7⟩)) ?_
 rintro v25 w22 ⟨hu23, hB24⟩
 have hb26 : Below w.heap.size w w13 := (bstep hb20 hb17)
 have hb27 := upd_below hb26 hu23 (by omega)
 have hb29 : Below w9.heap.size w9 w13 := (bstep hbo hb17)
 have hB28 := hB10.below hb29
 have hB30 := upd_blk hB28 hu23 (by omega)
 refine WL.nil (WE.next (WC.seq ?_))
 have hl31 := hB30.lt
 have hl32 := hB24.lt
 have hws : w.heap.size ≤ w22.heap.size := hb27.size
 have hE9 : ∀ {zw : World} {q : Nat}, q ≤ 3 → (∃ vals : List Value, vals.length ≤ q ∧ AddG w22 m S9 (KL.map bkV) t id (prt t) a c (bag B (prt t)) st vals zw ∧ True) → Below w22.heap.size w22 zw := fun hq h => by obtain ⟨vals, h1, h2, _⟩ := h; exact AddG.early (Nat.le_trans h1 hq) h2
 have hObj := hO.obj.below hb27
 have hRow := hrw.below hb27
 have hSl : ∀ b, (b = m ∨ obk a (bag B (prt t)).length c = some b) → b < w22.heap.size := fun b q => by rcases q with q | q; (rw [q]; exact hObj.lt); (have z := (hown b q).2.2.2.1; omega)
 have hc33 := bkeeps hb27 _ _ hO.c0
 refine WC.seqV (S := ((fun b => b = m ∨ obk a (bag B (prt t)).length c = some b))) [(true, .val (.pointer (some ⟨g, 0, none⟩))), (true, .val (.pointer (some ⟨g, 0, none⟩))), (true, .val (.pointer (some ⟨g, 0, none⟩))), (true, .val (.map ((some m)))), (true, .val (.agg #[.int .i64 ((ltr t [])), .int .i64 ((ltr t [0])), .int .i64 ((ltr t [1])), .int .i64 ((ltr t [2])), .int .i64 ((ltr t [0, 0])), .int .i64 ((ltr t [0, 1])), .int .i64 ((ltr t [1, 0])), .int .i64 ((ltr t [1, 1]))])), (true, .val (.agg #[.int .i64 t.f, .slice ta t.args.length tc])), (true, .val undef), (true, .val (.int .i64 id)), (true, .val undef), (true, .val undef), (true, .val undef), (true, .val (.slice a ((bag B (prt t)).length) c)), (true, .val undef), (true, .val (.int .i64 (((st : Nat) : Int)))), (true, .val undef)] [(0, .pointer (some ⟨g, 0, none⟩)), (1, .agg #[.int .i64 t.f, .slice ta t.args.length tc]), (2, .int .i64 id), (4, .pointer (some ⟨g2, 0, none⟩)), (6, .int .i64 0), (7, .pointer (some ⟨g14, 0, none⟩)), (8, .bool false), (12, .bool ((decide ((id : Int) < (0 : Int)))))] [6, 8, 9, 10, 12, 14] [none, none, none, some (true, .tuple #[.slice a ((bag B (prt t)).length) c, .int .i64 (((st : Nat) : Int))]), none, none] (AddG w22 m S9 (KL.map bkV) t id (prt t) a c (bag B (prt t)) st) AddG.below (by decide) ⟨rfl, rfl, rfl, rfl, rfl, rfl, rfl, rfl, trivial⟩ (by kernel_rfl) (by kernel_rfl) (by kernel_rfl) (by kernel_rfl) ((Below.refl _ _)) ?_ ?_
 ·refine ⟨.inl ⟨rfl, true, .none rfl, (fun gg b h => by cases h), fun h w => optUndef h, fun zβ za zw zc => ?_⟩, ?_⟩
  ·exact wp_move rfl (zc.kn.ev rfl) ⟨_, rfl, Below.refl _ _, optDef zβ rfl⟩
  refine ⟨.inl ⟨rfl, true, .none rfl, (fun gg b h => by cases h), fun h w => optUndef h, fun zβ za zw zc => ?_⟩, ?_⟩
  ·exact nilCheck_ rfl ((evt za 17).trans (optSVal (zc.dep 0 17 (by kernel_rfl) (by decide)) rfl rfl)) ⟨_, rfl, Below.refl _ _, optDef zβ rfl⟩
  refine ⟨.inl ⟨rfl, true, .none rfl, (fun gg b h => by cases h), fun h w => optUndef h, fun zβ za zw zc => ?_⟩, ?_⟩
  ·exact fld_48_0 rfl ((evt za 18).trans (optSVal (zc.dep 1 18 (by kernel_rfl) (by decide)) rfl rfl)) ⟨_, rfl, Below.refl _ _, optDef zβ rfl⟩
  refine ⟨.inl ⟨rfl, true, .none rfl, (fun gg b h => by cases h), fun h w => optUndef h, fun zβ za zw zc => ?_⟩, ?_⟩
  ·exact ld_46 rfl ((evt za 19).trans (optSVal (zc.dep 2 19 (by kernel_rfl) (by decide)) rfl rfl)) (bkeeps (hE9 (q := 3) (by decide) (by obtain ⟨v9, h1, h2, _⟩ := zc.early 3 10 rfl (by kernel_rfl); exact ⟨v9, h1, h2, trivial⟩)) _ _ hc33) ⟨_, rfl, Below.refl _ _, optDef zβ rfl⟩
  refine ⟨.inl ⟨rfl, true, .none rfl, (fun gg b h => by cases h), fun h w => optUndef h, fun zβ za zw zc => ?_⟩, ?_⟩
  ·exact ld_50 rfl (zc.kn.ev rfl) (bkeeps (hE9 (q := 3) (by decide) (by obtain ⟨v9, h1, h2, _⟩ := zc.early 3 10 rfl (by kernel_rfl); exact ⟨v9, h1, h2, trivial⟩)) _ _ ((hB24.cell 0).trans rfl)) (bkeeps (hE9 (q := 3) (by decide) (by obtain ⟨v9, h1, h2, _⟩ := zc.early 3 10 rfl (by kernel_rfl); exact ⟨v9, h1, h2, trivial⟩)) _ _ ((hB24.cell 1).trans rfl)) (bkeeps (hE9 (q := 3) (by decide) (by obtain ⟨v9, h1, h2, _⟩ := zc.early 3 10 rfl (by kernel_rfl); exact ⟨v9, h1, h2, trivial⟩)) _ _ ((hB24.cell 2).trans rfl)) (bkeeps (hE9 (q := 3) (by decide) (by obtain ⟨v9, h1, h2, _⟩ := zc.early 3 10 rfl (by kernel_rfl); exact ⟨v9, h1, h2, trivial⟩)) _ _ ((hB24.cell 3).trans rfl)) (bkeeps (hE9 (q := 3) (by decide) (by obtain ⟨v9, h1, h2, _⟩ := zc.early 3 10 rfl (by kernel_rfl); exact ⟨v9, h1, h2, trivial⟩)) _ _ ((hB24.cell 4).trans rfl)) (bkeeps (hE9 (q := 3) (by decide) (by obtain ⟨v9, h1, h2, _⟩ := zc.early 3 10 rfl (by kernel_rfl); exact ⟨v9, h1, h2, trivial⟩)) _ _ ((hB24.cell 5).trans rfl)) (bkeeps (hE9 (q := 3) (by decide) (by obtain ⟨v9, h1, h2, _⟩ := zc.early 3 10 rfl (by kernel_rfl); exact ⟨v9, h1, h2, trivial⟩)) _ _ ((hB24.cell 6).trans rfl)) (bkeeps (hE9 (q := 3) (by decide) (by obtain ⟨v9, h1, h2, _⟩ := zc.early 3 10 rfl (by kernel_rfl); exact ⟨v9, h1, h2, trivial⟩)) _ _ ((hB24.cell 7).trans rfl)) ⟨_, rfl, Below.refl _ _, optDef zβ rfl⟩
  refine ⟨.inl ⟨rfl, true, .none rfl, (fun gg b h => by cases h), fun h w => optUndef h, fun zβ za zw zc => ?_⟩, ?_⟩
  ·exact ld_24 rfl (zc.kn.ev rfl) (bkeeps (hE9 (q := 3) (by decide) (by obtain ⟨v9, h1, h2, _⟩ := zc.early 3 10 rfl (by kernel_rfl); exact ⟨v9, h1, h2, trivial⟩)) _ _ ((hB30.cell 0).trans rfl)) (bkeeps (hE9 (q := 3) (by decide) (by obtain ⟨v9, h1, h2, _⟩ := zc.early 3 10 rfl (by kernel_rfl); exact ⟨v9, h1, h2, trivial⟩)) _ _ ((hB30.cell 1).trans rfl)) ⟨_, rfl, Below.refl _ _, optDef zβ rfl⟩
  refine ⟨.inr ⟨0, rfl, by kernel_rfl, true, .none rfl, (fun gg b h => by cases h), (fun h => (nomatch h)), fun zβ za zw zvals zc => ?_⟩, ?_⟩
  ·obtain rfl := vlen0 zc.len
   have zn := zc.now
   exact wp_call (by kernel_rfl) rfl (hv1 ((evt za 23).trans (optSVal (zc.dep 5 23 (by kernel_rfl) (by decide)) rfl rfl))) (cop_any t _ _ hz (IsT.below (bstep hb27 zn) hvt)) (fun v w' h => ⟨v, rfl, .ofBelow h.2, ⟨bstep zn h.2, InT.mono (fun b hb _ => Nat.le_trans zn.size hb) h.1⟩, cvNo⟩)
  refine ⟨.inl ⟨rfl, true, .none rfl, (fun gg b h => by cases h), fun h w => optUndef h, fun zβ za zw zc => ?_⟩, ?_⟩
  ·exact wp_move rfl (zc.kn.ev rfl) ⟨_, rfl, Below.refl _ _, optDef zβ rfl⟩
  refine ⟨.inr ⟨1, rfl, by kernel_rfl, true, .none rfl, (fun gg b h => by cases h), (fun h => (nomatch h)), fun zβ za zw zvals zc => ?_⟩, ?_⟩
  ·obtain ⟨z0, rfl⟩ := vlen1 zc.len
   have zn := zc.now
   obtain ⟨hb9, hT9⟩ := zn
   obtain ⟨_, a1, c1, e1, _⟩ := InT.form hT9
   have hl9 := zc.val 0 6 24 rfl (by kernel_rfl)
   simp only [List.getElem?_cons_zero, Option.some.injEq] at hl9
   rw [e1] at hT9
   exact build_54_0_1 rfl ((evt za 24).trans (hl9.symm.trans e1)) ((evt za 25).trans (optSVal (zc.dep 7 25 (by kernel_rfl) (by decide)) rfl rfl)) ⟨_, rfl, .ofBelow (Below.refl _ _), ⟨hb9, _, _, rfl, hT9⟩, cvNo⟩
  refine ⟨.inr ⟨2, rfl, by kernel_rfl, true, .none rfl, (fun gg b h => by cases h), (fun h => (nomatch h)), fun zβ za zw zvals zc => ?_⟩, ?_⟩
  ·obtain ⟨z0, z1, rfl⟩ := vlen2 zc.len
   have zn := zc.now
   obtain ⟨hb9, u1, u2, e1, hT9⟩ := zn
   obtain ⟨_, a1, c1, e2, _⟩ := InT.form hT9
   have hl9 := zc.val 1 8 26 rfl (by kernel_rfl)
   simp only [List.getElem?_cons_zero, List.getElem?_cons_succ, Option.some.injEq] at hl9
   simp only [Value.agg.injEq, Array.mk.injEq, List.cons.injEq, and_true] at e2
   obtain ⟨rfl, rfl⟩ := e2
   exact row_52_1 rfl ((evt za 26).trans (hl9.symm.trans e1)) ⟨_, rfl, .ofBelow (balloc _ _), ⟨bstep hb9 (balloc _ _), _, _, rfl, hb9.size, Blk.new' rfl, ⟨_, _, rfl, InT.below (balloc _ _) hT9⟩⟩, cvNo⟩
  refine ⟨.inr ⟨3, rfl, by kernel_rfl, true, .none rfl, (fun gg b h => by cases h), (fun h => (nomatch h)), fun zβ za zw zvals zc => ?_⟩, ?_⟩
  ·obtain ⟨z0, z1, z2, rfl⟩ := vlen3 zc.len
   have zn := zc.now
   obtain ⟨hb9, h1R⟩ := zn
   refine wp_entryAt_gm keyP (n := prt t) rfl Try.underlying46 (zeroRows _) (hObj.below hb9) hO.ent rfl ((evt za 20).trans (optSVal (zc.dep 3 20 (by kernel_rfl) (by decide)) rfl rfl)) ((evt za 21).trans (optSVal (zc.dep 4 21 (by kernel_rfl) (by decide)) rfl rfl)) (fun w' es' cl' h1 h2 h3 h4 => ?_)
   rw [hlk] at h2 h3 ⊢
   rw [← hst] at h3 ⊢
   have hc9 : Chg (fun b => b = m ∨ obk a (bag B (prt t)).length c = some b) zw w' := .ofUpd h4 (.inl rfl)
   exact ⟨_, rfl, hc9, ⟨⟨es', cl', h1, h2, fun s k e => by cases e; exact h3⟩, (hRow.below hb9).chg (Z := fun b => b = m) (.ofUpd h4 rfl) (fun b q e => (hown b q).2.1 e) (fun b q e => (hO.sS b q).2.1 e), h1R.chg hc9 hSl, Nat.le_trans hb9.size hc9.size⟩, cvIs rfl⟩
  refine ⟨.inl ⟨rfl, true, .none rfl, (fun gg b h => by cases h), fun h w => optUndef h, fun zβ za zw zc => ?_⟩, ?_⟩
  ·exact ext2_0 rfl ((evt za 28).trans (zc.link 3 10 28 _ _ rfl (by kernel_rfl) rfl rfl)) ⟨_, rfl, Below.refl _ _, optDef zβ rfl⟩
  refine ⟨.inr ⟨4, rfl, by kernel_rfl, true, .none rfl, (fun gg b h => by cases h), (fun h => (nomatch h)), fun zβ za zw zvals zc => ?_⟩, ?_⟩
  ·obtain ⟨z0, z1, z2, z3, rfl⟩ := vlen4 zc.len
   have zn := zc.now
   obtain ⟨hM9, hR9, ⟨g1, cs, e1, hg1, hB1, hin⟩, hws9⟩ := zn
   have hl9 := zc.val 2 9 27 rfl (by kernel_rfl)
   simp only [List.getElem?_cons_zero, List.getElem?_cons_succ, Option.some.injEq] at hl9
   exact wp_appD (E := eltR) (S2 := fun b => w22.heap.size ≤ b) (size := 3) (bytes := 40) (z := .agg #[.int .i64 0, .slice none 0 0, .int .i64 0]) rfl Try.underlying52 (by kernel_rfl) rfl (by decide) rfl ((evt za 22).trans (optSVal (zc.dep 11 22 (by kernel_rfl) (by decide)) rfl rfl)) ((evt za 27).trans (hl9.symm.trans e1)) hR9 hB1 hin (fun b q e => by have z := hSl b (.inr e); omega) (by omega) (by omega) (fun ra rc w' h1 h2 h3 => ⟨_, rfl, h2.mono (fun b q => .inr q), ⟨hM9.chg h2 (fun e => (hown _ e).2.1 rfl), ra, rc, rfl, h1.mono (fun b q _ => q.1.elim .inl (fun z => .inr ⟨z, h1.ne b q⟩)) (fun b q e => q.elim (fun z => by rcases h3 b e with y | y; exact (hown b y).2.2.1 z; (have z2 := (hO.sS b z).2.2; omega)) (fun z => z.2 e)), fun b q => (h3 b q).imp (fun z => z) (fun z => Nat.le_trans hws9 z)⟩, cvNo⟩)
  refine ⟨.inl ⟨rfl, true, .none rfl, (fun gg b h => by cases h), fun h w => optUndef h, fun zβ za zw zc => ?_⟩, ?_⟩
  ·exact ext2_1 rfl ((evt za 28).trans (zc.link 3 10 28 _ _ rfl (by kernel_rfl) rfl rfl)) ⟨_, rfl, Below.refl _ _, optDef zβ rfl⟩
  refine ⟨.inr ⟨5, rfl, by kernel_rfl, true, .none rfl, (fun gg b h => by cases h), (fun h => (nomatch h)), fun zβ za zw zvals zc => ?_⟩, ?_⟩
  ·obtain ⟨z0, z1, z2, z3, z4, rfl⟩ := vlen5 zc.len
   have zn := zc.now
   obtain ⟨⟨es', cl', h1, h2, h3⟩, ra, rc, e1, hR9⟩ := zn
   have hl9 := zc.val 4 12 29 rfl (by kernel_rfl)
   simp only [List.getElem?_cons_zero, List.getElem?_cons_succ, Option.some.injEq] at hl9
   refine wp_entryStore_gm (ok := okP) (enc := encP) (n := prt t) rfl h1 h2 (h3 _ _ rfl) rfl ((evt za 20).trans (optSVal (zc.dep 3 20 (by kernel_rfl) (by decide)) rfl rfl)) ((evt za 30).trans (optSVal (zc.dep 13 30 (by kernel_rfl) (by decide)) rfl rfl)) ((evt za 29).trans (hl9.symm.trans e1)) (fun w' es2 cl2 k1 k2 k3 => ?_)
   rw [gmPut_put] at k2
   exact ⟨_, rfl, .ofUpd k3 (.inl rfl), ⟨ra, rc, ⟨es2, cl2, k1, k2, fun s k e => nomatch e⟩, hR9.chg (Z := fun b => b = m) (.ofUpd k3 rfl) (fun b q e => (hO.sS b q).2.1 e) (fun b q e => by have z := hObj.lt; have z2 : b = m := e; omega) (fun b q e => (hown b q).2.1 e)⟩, cvNo⟩
  exact trivial
 ·intro za w34 zvals zh zl hG35 hc36 zu zw zk
  obtain ⟨z0, z1, z2, z3, z4, z5, rfl⟩ := vlen6 zl
  obtain ⟨ra37, rc38, hM39, hR40⟩ := hG35
  have hBg41 := chg_blk (hO.blk.below hb27) hc36 (fun q => by rcases q with q | q; exact hO.gm q; exact (hown _ q).1 rfl)
  clear zu zw zk
  refine WE.go zh ?_
  refine WE.next (WC.seq (WC.region (WL.mv rfl rfl rfl rfl rfl ?_)))
  refine WL.val _ rfl rfl rfl (fun za zC zh zk => nilCheck_ rfl (zh.ev rfl) zk) ?_
  refine WL.val _ rfl rfl rfl (fun za zC zh zk => fld_48_1 rfl (zh.ev rfl) zk) ?_
  refine WL.val _ rfl rfl rfl (fun za zC zh zk => ld_3 rfl (zh.ev rfl) ((hBg41.cell 1).trans rfl) zk) ?_
  refine WL.val (.int .i64 ((((B.length + 1) : Nat) : Int))) rfl rfl rfl (fun za zC zh zk => addb_3 rfl (zh.ev rfl) (zh.ev rfl) (wrap_eq (by omega) (by omega) (by omega)) zk) ?_
  refine WL.val _ rfl rfl rfl (fun za zC zh zk => nilCheck_ rfl (zh.ev rfl) zk) ?_
  refine WL.val _ rfl rfl rfl (fun za zC zh zk => fld_48_1 rfl (zh.ev rfl) zk) ?_
  refine WL.step (post := fun _ w' => Upd g w34 w' ∧ Blk w' g 48 #[.map ((some m)), .int .i64 ((((B.length + 1) : Nat) : Int))]) rfl rfl rfl (fun za zC zh zk => st_3 rfl (zh.ev rfl) (zh.ev rfl) hBg41 (by first | decide | simp) (fun v => zk v _ ⟨Upd.at_ _ _ _ _, hBg41.set_ 1 _⟩)) ?_
  rintro v45 w42 ⟨hu43, hB44⟩
  refine WL.nil (WE.sub (K' := [(0, .pointer (some ⟨g, 0, none⟩)), (1, .agg #[.int .i64 t.f, .slice ta t.args.length tc]), (2, .int .i64 id), (4, .pointer (some ⟨g2, 0, none⟩)), (6, .int .i64 0), (7, .pointer (some ⟨g14, 0, none⟩)), (8, .bool false), (12, .bool ((decide ((id : Int) < (0 : Int)))))]) ⟨rfl, rfl, rfl, rfl, rfl, rfl, rfl, rfl, trivial⟩ ?_)
  refine WE.next (WC.seq (WC.region (WL.asg rfl rfl rfl rfl rfl (WL.nil (WE.next (WC.ret (WE.ret1 rfl rfl ?_)))))))
  have hu9 := hu43
  have hc9 : Chg (fun b => b = g ∨ b = m ∨ obk a (bag B (prt t)).length c = some b) w w42 := Chg.trans (Chg.trans (.ofBelow hb27) (hc36.mono (fun b q => .inr q))) (.ofUpd hu9 (.inl rfl))
  obtain ⟨es2, cl2, k1, k2, _⟩ := hM39
  have hgl := hO.blk.lt
  have k1' : ObjAt w42 m (.map es2 cl2) := k1.upd hu9 (fun e => hO.gm e.symm)
  have hR9 := hR40.chg (Z := fun b => b = g) (.ofUpd hu9 rfl) (fun b q e => (hO.sS b q).1 e) (fun b q e => by have z2 : b = g := e; omega) (fun b q e => (hown b q).1 e)
  have hWs : w.heap.size ≤ w22.heap.size := hws
  have hF := FpO.added (S2 := fun b => (S9 b ∨ (w22.heap.size ≤ b ∧ obk ra37 ((bag B (prt t)).length + 1) rc38 ≠ some b)) ∧ b < w42.heap.size) hO ⟨hi64, hz⟩ hown hB44 k1' k2 (hR9.1.mono (fun b q hlt => ⟨q, hlt⟩) (fun b q => hR9.1.ne b q.1)) (fun b q => ⟨.inl q, Nat.lt_of_lt_of_le (hO.sS b q).2.2 hc9.size⟩) (fun b q => q.1.imp (fun z => z) (fun z => ⟨by omega, q.2, z.2⟩)) (fun b q => (hR9.2 b q).imp (fun z => z) (fun z => by omega)) hc9
  refine ⟨_, rfl, rfl, ⟨_, ⟨m, es2, cl2, _, _, hF, fun b q => q, hF.lt⟩, fun b q => ?_⟩, hc9.mono (fun b q => ?_)⟩
  ·rcases q with q | q | q | ⟨x, hx, q⟩
   ·exact .inl (hZ b (.inl q))
   ·exact .inl (hZ b (.inr (.inl q)))
   ·rcases q.1 with z | z
    ·exact .inl (hZ b (.inr (.inr (.inl z))))
    ·right; omega
   ·rcases KLput_mem hO.nd hx with rfl | ⟨hx, _⟩
    ·have q : obk ra37 (bag B (prt t) ++ [(t, id)]).length rc38 = some b := q
     rw [List.length_append, List.length_singleton] at q
     rcases hR9.2 b q with z | z
     ·exact .inl (hZ b (hown b z).2.2.2.2.1)
     ·right; omega
    ·exact .inl (hZ b (.inr (.inr (.inr ⟨x, hx, q⟩))))
  ·rcases q with q | q | q
   ·exact hZ b (.inl q)
   ·exact hZ b (.inr (.inl q))
   ·exact hZ b (hown b q).2.2.2.2.1
end Go.Proofs.Ytibncmnmjhimeaa

/- Terms that are the same: the program's way. -/
namespace Go.Proofs.Ytibncmnmjhimeaa
open Go.RowKit Go.Sort Go
theorem T.sameL_len : ∀ (l q : List T), l.length ≠ q.length → T.sameL l q = false
  | [], [], h => absurd rfl h
  | _ :: r, _ :: q, h => by rw [T.sameL, T.sameL_len r q (by simpa using h), Bool.and_false]
  | [], _ :: _, _ => rfl
  | _ :: _, [], _ => rfl
theorem T.sameL_drop (l q : List T) (k : Nat) (h : k < l.length) (h' : k < q.length) : T.sameL (l.drop k) (q.drop k) = (T.same l[k] q[k] && T.sameL (l.drop (k + 1)) (q.drop (k + 1))) := by
  rw [List.drop_eq_getElem_cons h, List.drop_eq_getElem_cons h', T.sameL]
theorem T.sameL_end (l q : List T) (h : l.length = q.length) : T.sameL (l.drop l.length) (q.drop l.length) = true := by
  rw [List.drop_eq_nil_of_le (Nat.le_refl _), List.drop_eq_nil_of_le (by omega), T.sameL]
theorem equalFunc_any (l q : List T) (ih : ∀ a ∈ l, ∀ (t : T) (w : World) (v u : Value), IsT w a v → IsT w t u →
      Calls Try.prog 37 #[v, u] w fun e w' => e = .returned (.bool (T.same a t)) ∧ Below w.heap.size w w')
    (w : World) (a a' : Option Addr) (c c' : Nat) (hc : l.length ≤ c) (_hc' : q.length ≤ c') (hm : c ≤ maxLen) (_hm' : c' ≤ maxLen) (hl : IsTs w l a 0) (hq : IsTs w q a' 0) :
    Calls Try.prog 49 #[.slice a l.length c, .slice a' q.length c', .func (.func 37) #[] #[]] w fun e w' => e = .returned (.bool (T.sameL l q)) ∧ Below w.heap.size w w' := by
  unfold maxLen at hm
  by_cases hlen : l.length = q.length
  · have hne : ((l.length : Int) != (q.length : Int)) = false := by simp [hlen]
    have HL := Lib.hid hlen
    go_enter Try.func49, Try.ntmps49
    clear hlen
    go_wp2_with fail
    go_loopw [17] (fun i wr => ∃ (k : Nat), k ≤ l.length ∧ i = .int .i64 k ∧ Hid (T.sameL l q = T.sameL (l.drop k) (q.drop k)) ∧ Below w.heap.size w wr) (fun i _ => l.length - (intOf i).toNat)
    case atStart => exact ⟨0, Nat.zero_le _, rfl, rfl, Below.refl _ _⟩
    case round =>
      obtain ⟨k, hk, rfl, hx, hw⟩ := hrel
      by_cases hlt : k < l.length
      · have hlq : k < q.length := by have := HL.out; omega
        obtain ⟨b1, o1, a1, c1, rfl, g1, g2, h3⟩ := hl.at_ hw k hlt
        obtain ⟨b2, o2, a2, c2, rfl, g3, g4, h4⟩ := hq.at_ hw k hlq
        have IH := fun w v u => ih l[k] (List.getElem_mem hlt) q[k] w v u
        have q5 := T.sameL_drop l q k hlt hlq
        have g3 := calloc g3
        have g4 := calloc g4
        cases hz : T.same l[k] q[k] with
        | true =>
          rw [hz] at IH
          have Hh3 := Lib.hid h3
          have Hh4 := Lib.hid h4
          have Hhw := Lib.hid hw
          have Hq5 := Lib.hid q5
          have Hhx := Lib.hid hx
          have Hhz := Lib.hid hz
          clear h3 h4 hw q5 hx hz
          clear ih hl hq
          go_wp2_with (go_at_call 37; refine (IH _ _ _ (Hh3.out.below (balloc2 _ _ _)) (Hh4.out.below (balloc2 _ _ _))).mono ?_; rintro e w' ⟨rfl, hb'⟩)
          go_roundw
          case rel => exact ⟨k + 1, by omega, by go_num, by unfold Hid; rw [Hhx.out, Hq5.out, Hhz.out, Bool.true_and], bstep (bstep Hhw.out (balloc2 _ _ _)) hb'⟩
          case measure => simp [intOf]; omega
        | false =>
          rw [hz] at IH
          have Hh3 := Lib.hid h3
          have Hh4 := Lib.hid h4
          have Hhw := Lib.hid hw
          have Hq5 := Lib.hid q5
          have Hhx := Lib.hid hx
          have Hhz := Lib.hid hz
          clear h3 h4 hw q5 hx hz
          clear ih hl hq
          go_wp2_with (go_at_call 37; refine (IH _ _ _ (Hh3.out.below (balloc2 _ _ _)) (Hh4.out.below (balloc2 _ _ _))).mono ?_; rintro e w' ⟨rfl, hb'⟩)
          go_ret
          exact ⟨rbool (by rw [Hhx.out, Hq5.out, Hhz.out, Bool.false_and]), bstep (bstep Hhw.out (balloc2 _ _ _)) hb'⟩
      · obtain rfl : k = l.length := by omega
        have Q := Lib.hid (T.sameL_end l q HL.out)
        have Hhw := Lib.hid hw
        have Hhx := Lib.hid hx
        clear hw hx
        clear ih hl hq
        go_wp2_with fail
        go_ret
        exact ⟨rbool (by rw [Hhx.out, Q.out]), Hhw.out⟩
  · have hne : ((l.length : Int) != (q.length : Int)) = true := by simpa using fun h => hlen (by omega)
    have E := Lib.hid (T.sameL_len l q hlen)
    clear ih hl hq hlen
    go_enter Try.func49, Try.ntmps49
    go_wp2_with fail
    go_ret
    exact ⟨rbool E.out, Below.refl _ _⟩
theorem same_any (s : T) : ∀ (t : T) (w : World) (v u : Value), IsT w s v → IsT w t u →
    Calls Try.prog 37 #[v, u] w fun e w' => e = .returned (.bool (T.same s t)) ∧ Below w.heap.size w w' := by
  induction s using T.ind with
  | h f l ih =>
  intro t w v u hv hu
  obtain ⟨g, q⟩ := t
  obtain ⟨_, a, c, rfl, hc, hm, hl⟩ := hv
  obtain ⟨_, a', c', rfl, hc', hm', hq⟩ := hu
  have EF := fun (w' : World) hb => equalFunc_any l q ih w' a a' c c' hc hc' hm hm' (IsTs.below (w := w) (w' := w') hb hl) (hq.below hb)
  clear ih hl hq
  by_cases hfg : f = g
  · have hne : (f == g) = true := by simpa using hfg
    have E := Lib.hid (show T.same (.mk f l) (.mk g q) = T.sameL l q by rw [T.same, hne, Bool.true_and])
    subst hfg
    go_enter Try.func37, Try.ntmps37
    go_wp2_with (go_at_call 49; refine (EF _ (balloc2 _ _ _)).mono ?_; rintro e w' ⟨rfl, hb'⟩)
    go_ret
    exact ⟨rbool E.out, bstep (balloc2 _ _ _) hb'⟩
  · have hne : (f == g) = false := by simpa using hfg
    have E := Lib.hid (show T.same (.mk f l) (.mk g q) = false by rw [T.same, hne, Bool.false_and])
    clear hfg
    go_enter Try.func37, Try.ntmps37
    go_wp2_with fail
    go_ret
    exact ⟨rbool E.out, balloc2 _ _ _⟩
end Go.Proofs.Ytibncmnmjhimeaa

/- A term is taken out of an index: the program. -/
namespace Go.Proofs.Ytibncmnmjhimeaa
open Go.RowKit Go
set_option linter.unusedVariables false
set_option linter.unusedSimpArgs false
theorem slh_r {w : World} {a : Act} {K : Act → World → Prop} {Q : Exit → Act → World → Prop} {o : Oper} {x lo hi : Operand} {r : Option Addr} {n c k h : Nat} (ho : o.op = .slice 52 x (some lo) (some hi) none) (hx : a.eval x = .slice r n c) (hl : a.eval lo = .int .i64 (k : Int)) (hh : a.eval hi = .int .i64 (h : Int)) (h1 : k ≤ h) (h2 : h ≤ c) (hK : K (a.put o.dst (.slice (slA r k 3 c) (h - k) (c - k))) w) : o.wp Try.prog a w K Q := by
 have i0 : (0 : Int) ≤ (k : Int) := by omega
 have i1 : (k : Int) ≤ (h : Int) := by omega
 have i2 : (h : Int) ≤ (c : Int) := by omega
 have i3 : (0 : Int) ≤ (h : Int) := by omega
 unfold slA at hK
 unfold Oper.wp execOp
 simp only [ho, hx, hl, hh, Option.map_some, Option.map_none]
 go_simp
 exact hK
theorem slm_r {w : World} {a : Act} {K : Act → World → Prop} {Q : Exit → Act → World → Prop} {o : Oper} {x lo hi mx : Operand} {r : Option Addr} {n c k h m : Nat} (ho : o.op = .slice 52 x (some lo) (some hi) (some mx)) (hx : a.eval x = .slice r n c) (hl : a.eval lo = .int .i64 (k : Int)) (hh : a.eval hi = .int .i64 (h : Int)) (hm : a.eval mx = .int .i64 (m : Int)) (h1 : k ≤ h) (h2 : h ≤ m) (h4 : m ≤ c) (hK : K (a.put o.dst (.slice (slA r k 3 m) (h - k) (m - k))) w) : o.wp Try.prog a w K Q := by
 have i0 : (0 : Int) ≤ (k : Int) := by omega
 have i1 : (k : Int) ≤ (h : Int) := by omega
 have i2 : (h : Int) ≤ (m : Int) := by omega
 have i3 : (0 : Int) ≤ (h : Int) := by omega
 have i4 : (m : Int) ≤ (c : Int) := by omega
 have i5 : (0 : Int) ≤ (m : Int) := by omega
 unfold slA at hK
 unfold Oper.wp execOp
 simp only [ho, hx, hl, hh, hm, Option.map_some, Option.map_none]
 go_simp
 exact hK
def rget (l : List TI) (k : Nat) : TI := l.getD k (.mk 0 [], 0)
theorem rget_lt {l : List TI} {k : Nat} (h : k < l.length) : rget l k = l[k] := by
 unfold rget; rw [List.getD_eq_getElem?_getD, List.getElem?_eq_getElem h]; rfl
theorem InRow.openRT {S : Nat → Prop} {w : World} {l : List TI} {a : Option Addr} (h : InRow eltR S w l a) : ∃ (b o : Nat) (A : Nat → Option Addr) (C : Nat → Nat), (∀ k, k < l.length → a = some ⟨b, o, none⟩) ∧ ∀ k, k < l.length →
  w.cell? ⟨b, o + k * 3, none⟩ = some (.int .i64 (rget l k).1.f) ∧ w.cell? ⟨b, o + k * 3 + 1, none⟩ = some (.slice (A k) (rget l k).1.args.length (C k)) ∧ w.cell? ⟨b, o + k * 3 + 2, none⟩ = some (.int .i64 (rget l k).2) ∧ IsT w (rget l k).1 (.agg #[.int .i64 (rget l k).1.f, .slice (A k) (rget l k).1.args.length (C k)]) := by
 rcases Nat.eq_zero_or_pos l.length with h0 | h0
 ·exact ⟨0, 0, fun _ => none, fun _ => 0, fun k hk => by omega, fun k hk => by omega⟩
 ·obtain ⟨b, o, cs0, e0, _, _, _⟩ := h 0 h0
  have key : ∀ k : Nat, ∃ z : Option Addr × Nat, k < l.length → w.cell? ⟨b, o + k * 3, none⟩ = some (.int .i64 (rget l k).1.f) ∧ w.cell? ⟨b, o + k * 3 + 1, none⟩ = some (.slice z.1 (rget l k).1.args.length z.2) ∧ w.cell? ⟨b, o + k * 3 + 2, none⟩ = some (.int .i64 (rget l k).2) ∧ IsT w (rget l k).1 (.agg #[.int .i64 (rget l k).1.f, .slice z.1 (rget l k).1.args.length z.2]) := fun k => by
   by_cases hk : k < l.length
   ·obtain ⟨b2, o2, cs, e1, _, ⟨u, v, e2, hT⟩, h4⟩ := h k hk
    rw [e0] at e1
    simp only [Option.some.injEq, Addr.mk.injEq, and_true] at e1
    obtain ⟨rfl, rfl⟩ := e1
    have hT2 := hT.isT
    obtain ⟨_, a1, c1, e3, _⟩ := hT.form
    simp only [Value.agg.injEq, Array.mk.injEq, List.cons.injEq, and_true] at e3
    obtain ⟨rfl, rfl⟩ := e3
    subst e2
    rw [rget_lt hk]
    refine ⟨⟨a1, c1⟩, fun _ => ⟨h4 0 (by decide), h4 1 (by decide), h4 2 (by decide), hT2⟩⟩
   ·exact ⟨⟨none, 0⟩, fun q => absurd q hk⟩
  exact ⟨b, o, fun k => (Classical.choose (key k)).1, fun k => (Classical.choose (key k)).2, fun k hk => e0, fun k hk => Classical.choose_spec (key k) hk⟩
theorem rowD_some {S : Nat → Prop} {w : World} {e c n : Nat} {a : Option Addr} {l : List TI} (h : RowD eltR S w e a c n l) (hn : 0 < n) : ∃ g, a = some ⟨g, 0, none⟩ := by
 obtain ⟨⟨xs, h1, h2⟩, h3, h4⟩ := h
 rcases h1.2 with ⟨e1, e2⟩ | ⟨b, cap, cur, e1, _⟩
 ·omega
 ·simp only [Value.slice.injEq] at e1
  exact ⟨b, e1.1⟩
theorem infoR : ∃ ti, Try.prog.info? 54 = some ti ∧ ti.size = 3 := by
 have h : (Try.prog.info? 54).map (fun i => i.size) = some 3 := by kernel_rfl
 cases hi : Try.prog.info? 54 with
 | none => rw [hi] at h; cases h
 | some i => rw [hi] at h; exact ⟨i, rfl, Option.some.inj h⟩
set_option maxRecDepth 100000 in
theorem del1_any (t : T) (id : Int) (x : TI) (g5 g4 : Nat) (ta xa : Option Addr) (tc xc : Nat) (w : World) (h5 : Blk w g5 3 #[.int .i64 id]) (h4 : Blk w g4 24 #[.int .i64 t.f, .slice ta t.args.length tc]) (ht : IsT w t (.agg #[.int .i64 t.f, .slice ta t.args.length tc])) (hx : IsT w x.1 (.agg #[.int .i64 x.1.f, .slice xa x.1.args.length xc])) :
  Calls Try.prog 36 #[.agg #[.int .i64 x.1.f, .slice xa x.1.args.length xc, .int .i64 x.2], .pointer (some ⟨g5, 0, none⟩), .pointer (some ⟨g4, 0, none⟩)] w (Ret fun v' w' => v' = .bool (hitR t id x) ∧ Below w.heap.size w w') := by
 skip
 refine Calls.walk (l := [.agg #[.int .i64 x.1.f, .slice xa x.1.args.length xc, .int .i64 x.2], .pointer (some ⟨g5, 0, none⟩), .pointer (some ⟨g4, 0, none⟩)]) Try.func36 rfl (by kernel_rfl) ?_
 refine WC.sub (K' := [(0, .agg #[.int .i64 x.1.f, .slice xa x.1.args.length xc, .int .i64 x.2]), (1, .pointer (some ⟨g5, 0, none⟩)), (2, .pointer (some ⟨g4, 0, none⟩))]) ⟨rfl, rfl, rfl, trivial⟩ ?_
 refine WC.seq (WC.region ?_)
 refine WL.step (post := NewBlk w 54 #[.int .i64 x.1.f, .slice xa x.1.args.length xc, .int .i64 x.2]) rfl rfl rfl (fun za zC zh zk => box_54 rfl (zh.ev rfl) (zk _ _ (newBlk _ _ _))) ?_
 rintro _ w1 ⟨g2, rfl, hg3, hB4, hb5, hz6⟩
 have hl7 : g5 < g2 := by have z1 := h5.lt; omega
 have hl8 : g4 < g2 := by have z1 := h4.lt; omega
 have hl9 : w.heap.size ≤ g2 := by omega
 refine WL.asg rfl rfl rfl rfl rfl (WL.nil (WE.next (WC.seq ?_)))
 have hB10 := h5.below hb5
 have hB11 := h4.below hb5
 refine WC.opt [(true, .val (.pointer (some ⟨g2, 2, none⟩))), (true, .val (.int .i64 x.2)), (true, .val (.int .i64 id)), (true, .val (.bool (((x.2 : Int) == (id : Int))))), (true, .val (.bool (((x.2 : Int) == (id : Int))))), ((true && ((x.2 : Int) == (id : Int))), .val (.pointer (some ⟨g2, 0, none⟩))), ((true && ((x.2 : Int) == (id : Int))), .val (.agg #[.int .i64 x.1.f, .slice xa x.1.args.length xc])), ((true && ((x.2 : Int) == (id : Int))), .val (.agg #[.int .i64 t.f, .slice ta t.args.length tc])), ((true && ((x.2 : Int) == (id : Int))), .val (.bool ((T.same x.1 t)))), (true, .val (.bool ((((x.2 : Int) == (id : Int)) && (T.same x.1 t))))), (true, .val (.bool ((((x.2 : Int) == (id : Int)) && (T.same x.1 t)))))] [(0, .agg #[.int .i64 x.1.f, .slice xa x.1.args.length xc, .int .i64 x.2]), (1, .pointer (some ⟨g5, 0, none⟩)), (2, .pointer (some ⟨g4, 0, none⟩)), (3, .pointer (some ⟨g2, 0, none⟩))] ⟨rfl, rfl, rfl, rfl, trivial⟩ (by kernel_rfl) (by kernel_rfl) (by kernel_rfl) ?_ ?_
 ·refine ⟨⟨true, .none rfl, fun h w => optUndef h, fun zβ za zw zc => ?_⟩, ?_⟩
  ·exact fld_54_1 rfl (zc.kn.ev rfl) ⟨_, rfl, Below.refl _ _, optDef zβ rfl⟩
  refine ⟨⟨true, .none rfl, fun h w => optUndef h, fun zβ za zw zc => ?_⟩, ?_⟩
  ·exact ld_3 rfl ((evt za 5).trans (optVal (zc.dep 0 5 (by kernel_rfl)) rfl rfl)) (bkeeps zc.below _ _ ((hB4.cell 2).trans rfl)) ⟨_, rfl, Below.refl _ _, optDef zβ rfl⟩
  refine ⟨⟨true, .none rfl, fun h w => optUndef h, fun zβ za zw zc => ?_⟩, ?_⟩
  ·exact ld_3 rfl (zc.kn.ev rfl) (bkeeps zc.below _ _ ((hB10.cell 0).trans rfl)) ⟨_, rfl, Below.refl _ _, optDef zβ rfl⟩
  refine ⟨⟨true, .none rfl, fun h w => optUndef h, fun zβ za zw zc => ?_⟩, ?_⟩
  ·exact eql_3 rfl ((evt za 6).trans (optVal (zc.dep 1 6 (by kernel_rfl)) rfl rfl)) ((evt za 7).trans (optVal (zc.dep 2 7 (by kernel_rfl)) rfl rfl)) ⟨_, rfl, Below.refl _ _, optDef zβ rfl⟩
  refine ⟨⟨true, .none rfl, fun h w => optUndef h, fun zβ za zw zc => ?_⟩, ?_⟩
  ·exact wp_move rfl ((evt za 8).trans (optVal (zc.dep 3 8 (by kernel_rfl)) rfl rfl)) ⟨_, rfl, Below.refl _ _, optDef zβ rfl⟩
  refine ⟨⟨_, .yes (d := true) rfl (fun v w h => h), fun h w => optUndef h, fun zβ za zw zc => ?_⟩, ?_⟩
  ·exact fld_54_0 rfl (zc.kn.ev rfl) ⟨_, rfl, Below.refl _ _, optDef zβ rfl⟩
  refine ⟨⟨_, .yes (d := true) rfl (fun v w h => h), fun h w => optUndef h, fun zβ za zw zc => ?_⟩, ?_⟩
  ·exact ld_24 rfl ((evt za 10).trans (optVal (zc.dep 5 10 (by kernel_rfl)) rfl zβ)) (bkeeps zc.below _ _ ((hB4.cell 0).trans rfl)) (bkeeps zc.below _ _ ((hB4.cell 1).trans rfl)) ⟨_, rfl, Below.refl _ _, optDef zβ rfl⟩
  refine ⟨⟨_, .yes (d := true) rfl (fun v w h => h), fun h w => optUndef h, fun zβ za zw zc => ?_⟩, ?_⟩
  ·exact ld_24 rfl (zc.kn.ev rfl) (bkeeps zc.below _ _ ((hB11.cell 0).trans rfl)) (bkeeps zc.below _ _ ((hB11.cell 1).trans rfl)) ⟨_, rfl, Below.refl _ _, optDef zβ rfl⟩
  refine ⟨⟨_, .yes (d := true) rfl (fun v w h => h), fun h w => optUndef h, fun zβ za zw zc => ?_⟩, ?_⟩
  ·exact wp_call (by kernel_rfl) rfl (hv2 ((evt za 11).trans (optVal (zc.dep 6 11 (by kernel_rfl)) rfl zβ)) ((evt za 12).trans (optVal (zc.dep 7 12 (by kernel_rfl)) rfl zβ))) (ret_of (same_any x.1 t _ _ _ (IsT.below (bstep hb5 zc.below) hx) (IsT.below (bstep hb5 zc.below) ht))) (fun v w' h => ⟨v, rfl, h.2, optDef zβ h.1⟩)
  refine ⟨⟨true, .none rfl, fun h w => optUndef h, fun zβ za zw zc => ?_⟩, ?_⟩
  ·exact wp_and rfl ((evt za 9).trans (optVal (zc.dep 4 9 (by kernel_rfl)) rfl rfl)) (fun hp => ((evt za 13).trans (optVal (zc.dep 8 13 (by kernel_rfl)) rfl (bMk zβ hp)))) ⟨_, rfl, Below.refl _ _, optDef zβ rfl⟩
  refine ⟨⟨true, .none rfl, fun h w => optUndef h, fun zβ za zw zc => ?_⟩, ?_⟩
  ·exact wp_assign rfl ((evt za 14).trans (optVal (zc.dep 9 14 (by kernel_rfl)) rfl rfl)) ⟨_, rfl, Below.refl _ _, optDef zβ rfl⟩
  exact trivial
 ·intro za w12 zh hb13 zu
  have zh := zh.cons (d := 4) (v := .bool ((((x.2 : Int) == (id : Int)) && (T.same x.1 t)))) (optVal (zu 10 4 (by kernel_rfl)) rfl rfl)
  clear zu
  refine WE.go zh ?_
  refine WE.next (WC.ret (WE.ret1 rfl rfl ?_))
  have hb14 : Below w.heap.size w w12 := (bstep hb5 hb13)
  exact ⟨_, rfl, rfl, hb14⟩
set_option maxRecDepth 100000 in
theorem first_any (L : List TI) (t : T) (id : Int) (g5 g4 : Nat) (a ta : Option Addr) (c tc : Nat) (w : World) (hz : L.length ≤ 4294967296) (hr : InRow eltR (fun _ => True) w L a) (h5 : Blk w g5 3 #[.int .i64 id]) (h4 : Blk w g4 24 #[.int .i64 t.f, .slice ta t.args.length tc]) (ht : IsT w t (.agg #[.int .i64 t.f, .slice ta t.args.length tc])) (hin : (t, id) ∈ L) :
  Calls Try.prog 35 #[.slice a L.length c, .func (.func 36) #[] #[.pointer (some ⟨g5, 0, none⟩), .pointer (some ⟨g4, 0, none⟩)]] w (Ret fun v' w' => (∃ i : Nat, v' = .int .i64 (i : Int) ∧ i < L.length ∧ hitR t id (rget L i) = true ∧ ∀ j, j < i → hitR t id (rget L j) = false) ∧ Below w.heap.size w w') := by
 obtain ⟨rb, ro, rA, rC, hra, hrc9⟩ := InRow.openRT hr
 refine Calls.walk (l := [.slice a L.length c, .func (.func 36) #[] #[.pointer (some ⟨g5, 0, none⟩), .pointer (some ⟨g4, 0, none⟩)]]) Try.func35 rfl (by kernel_rfl) ?_
 refine WC.sub (K' := [(0, .slice a L.length c), (1, .func (.func 36) #[] #[.pointer (some ⟨g5, 0, none⟩), .pointer (some ⟨g4, 0, none⟩)])]) ⟨rfl, rfl, trivial⟩ ?_
 refine WC.seq (WC.region (WL.asg rfl rfl rfl rfl rfl (WL.nil (WE.next (WC.seq (WC.seq (WC.region (WL.mv rfl rfl rfl rfl rfl ?_))))))))
 refine WL.val (.int .i64 (((L.length : Nat) : Int))) rfl rfl rfl (fun za zC zh zk => len_52 rfl (zh.ev rfl) zk) ?_
 refine WL.mv rfl rfl rfl rfl rfl (WL.nil (WE.next (WC.block ?_)))
 refine WC.loop (X := Nat) (fun k => L.length - k) (fun k => [(0, .slice a L.length c), (1, .func (.func 36) #[] #[.pointer (some ⟨g5, 0, none⟩), .pointer (some ⟨g4, 0, none⟩)]), (7, .int .i64 (((L.length : Nat) : Int))), (8, .int .i64 (((k : Nat) : Int)))]) (fun k w1 => k ≤ L.length ∧ (∀ j, j < k → hitR t id (rget L j) = false) ∧ Below w.heap.size w w1 ∧ Blk w1 g5 3 #[.int .i64 id] ∧ Blk w1 g4 24 #[.int .i64 t.f, .slice ta t.args.length tc]) 0 ⟨rfl, rfl, rfl, rfl, trivial⟩ ?_ ?_
 ·exact ⟨Nat.zero_le _, fun q h => absurd h (Nat.not_lt_zero q), (Below.refl _ _), h5, h4⟩
 ·rintro k w1 ⟨hk, hall, hb2, hB3, hB4⟩
  refine WC.seq (WC.region ?_)
  refine WL.val (.bool ((decide ((((k : Nat) : Int) : Int) < (((L.length : Nat) : Int) : Int))))) rfl rfl rfl (fun za zC zh zk => lss_3 rfl (zh.ev rfl) (zh.ev rfl) zk) ?_
  refine WL.nil (WE.next (WC.seq ?_))
  refine WC.cond rfl (fun h5 => ?_) (fun h5 => ?_)
  ·have h5 : (((k : Nat) : Int) : Int) < (((L.length : Nat) : Int) : Int) := by simpa using h5
   refine WC.skip (WE.next (WC.seq (WC.block (WC.seq (WC.region (WL.mv rfl rfl rfl rfl rfl (WL.asg rfl rfl rfl rfl rfl (WL.nil (WE.next (WC.seq (WC.region (WL.mv rfl rfl rfl rfl rfl (WL.mv rfl rfl rfl rfl rfl (WL.mv rfl rfl rfl rfl rfl ?_))))))))))))))
   refine WL.val _ rfl rfl rfl (fun za zC zh zk => ix_52 (k := k) rfl (zh.ev rfl) (hra k (by first | omega | (simp; omega))) (zh.ev rfl) (by first | omega | (simp; omega)) zk) ?_
   refine WL.val _ rfl rfl rfl (fun za zC zh zk => ld_54 rfl (zh.ev rfl) (bkeeps hb2 _ _ (hrc9 k (by first | omega | (simp; omega))).1) (bkeeps hb2 _ _ (hrc9 k (by first | omega | (simp; omega))).2.1) (bkeeps hb2 _ _ (hrc9 k (by first | omega | (simp; omega))).2.2.1) zk) ?_
   refine WL.call rfl rfl rfl (fun za zh zC => wp_callv (by kernel_rfl) rfl (zh.ev rfl) (hv1 (zh.ev rfl))) (del1_any t id (rget L k) _ _ _ _ _ _ _ hB3 hB4 (ht.below hb2) (IsT.below hb2 ((hrc9 k (by first | omega | (simp; omega))).2.2.2))) ?_
   rintro _ w7 ⟨rfl, hq6⟩
   refine WL.nil (WE.next ?_)
   refine WC.cond rfl (fun h8 => ?_) (fun h8 => ?_)
   ·skip
    refine WC.seq (WC.region (WL.mv rfl rfl rfl rfl rfl (WL.asg rfl rfl rfl rfl rfl (WL.nil (WE.next (WC.ret (WE.blockRet (WE.thenRet (WE.thenRet (WE.blockRet (WE.thenRet (WE.ret1 rfl rfl ?_))))))))))))
    have hb9 : Below w.heap.size w w7 := (bstep hb2 hq6)
    exact ⟨_, rfl, ⟨k, rfl, by omega, by simpa using h8, hall⟩, hb9⟩
   ·skip
    refine WC.skip (WE.blockNormal (WE.next (WC.region ?_)))
    refine WL.val (.int .i64 ((((k + 1) : Nat) : Int))) rfl rfl rfl (fun za zC zh zk => addb_3 rfl (zh.ev rfl) (zh.ev rfl) (wrap_eq (by omega) (by omega) (by omega)) zk) ?_
    refine WL.mv rfl rfl rfl rfl rfl (WL.nil ?_)
    refine WE.round (k + 1) ⟨rfl, rfl, rfl, rfl, trivial⟩ ?_ ?_
    ·have hb10 : Below w.heap.size w w7 := (bstep hb2 hq6)
     have hB11 := hB3.below hq6
     have hB12 := hB4.below hq6
     exact ⟨(by (try dsimp only at *); omega), (fun j hj => by
       by_cases e : j = k
       ·subst e; simpa using h8
       ·exact hall j (by omega)), hb10, hB11, hB12⟩
    ·(try dsimp only at *); omega
  ·have h5 : ¬ ((((k : Nat) : Int) : Int) < (((L.length : Nat) : Int) : Int)) := by simpa using h5
   refine WC.exit (WE.thenExit (WE.thenExit (WE.blockIs rfl (WE.next (WC.seq (WC.region (WL.asg rfl rfl rfl rfl rfl (WL.nil (WE.next (WC.ret (WE.ret1 rfl rfl ?_)))))))))))
   obtain ⟨j, hj, e9⟩ := List.getElem_of_mem hin
   have z := hall j (by omega)
   rw [rget_lt hj, e9, hitR_iff.2 rfl] at z
   cases z
/-- While an element is taken out. -/
def DelG (S : Nat → Prop) (g c n i : Nat) (L : List TI) : List Value → World → Prop
 | [], w => RowD eltR S w 54 (some ⟨g, 0, none⟩) c n L
 | _ :: _, w => RowD eltR S w 54 (some ⟨g, 0, none⟩) c (n - 1) (L.eraseIdx i)
theorem DelG.below {S : Nat → Prop} {g c n i : Nat} {L : List TI} : ∀ (vals : List Value) (w w' : World), Below w.heap.size w w' → DelG S g c n i L vals w → DelG S g c n i L vals w'
 | [], _, _, hb, h => RowD.below h hb
 | _ :: _, _, _, hb, h => RowD.below h hb
set_option maxRecDepth 100000 in
theorem delete_any {S9 : Nat → Prop} {g c n i : Nat} {L : List TI} (w : World) (hR : RowD eltR S9 w 54 (some ⟨g, 0, none⟩) c n L) (hi : i < n) (hz : n ≤ 4294967296) : Calls Try.prog 38 #[.slice (some ⟨g, 0, none⟩) n c, .int .i64 (i : Int), .int .i64 ((i + 1 : Nat) : Int)] w (Ret fun v' w' => v' = .slice (some ⟨g, 0, none⟩) (n - 1) c ∧ RowD eltR S9 w' 54 (some ⟨g, 0, none⟩) c (n - 1) (L.eraseIdx i) ∧ Chg (fun b => b = g) w w') := by
 obtain ⟨ti, hti, his⟩ := infoR
 have hnc := hR.inRow.2.1
 refine Calls.walk (l := [.slice ((some ⟨g, 0, none⟩)) n c, .int .i64 (((i : Nat) : Int)), .int .i64 ((((i + 1) : Nat) : Int))]) Try.func38 rfl (by kernel_rfl) ?_
 refine WC.sub (K' := [(0, .slice ((some ⟨g, 0, none⟩)) n c), (1, .int .i64 (((i : Nat) : Int))), (2, .int .i64 ((((i + 1) : Nat) : Int)))]) ⟨rfl, rfl, rfl, trivial⟩ ?_
 refine WC.seq (WC.region (WL.asg rfl rfl rfl rfl rfl (WL.nil (WE.next (WC.seq (WC.region (WL.mv rfl rfl rfl rfl rfl (WL.mv rfl rfl rfl rfl rfl (WL.mv rfl rfl rfl rfl rfl (WL.mv rfl rfl rfl rfl rfl ?_))))))))))
 refine WL.val (.int .i64 (((n : Nat) : Int))) rfl rfl rfl (fun za zC zh zk => len_52 rfl (zh.ev rfl) zk) ?_
 refine WL.val (.slice ((slA (some ⟨g, 0, none⟩) i 3 n)) ((i + 1 - i)) ((n - i))) rfl rfl rfl (fun za zC zh zk => slm_r (k := i) (h := i + 1) (m := n) rfl (zh.ev rfl) (zh.ev rfl) (zh.ev rfl) (zh.ev rfl) (by omega) (by omega) (by omega) zk) ?_
 refine WL.nil (WE.next (WC.seq (WC.seq (WC.region (WL.mv rfl rfl rfl rfl rfl (WL.mv rfl rfl rfl rfl rfl ?_))))))
 refine WL.val (.bool (((((i : Nat) : Int) : Int) == ((((i + 1) : Nat) : Int) : Int)))) rfl rfl rfl (fun za zC zh zk => eql_3 rfl (zh.ev rfl) (zh.ev rfl) zk) ?_
 refine WL.nil (WE.next ?_)
 refine WC.condF rfl ((by simp; omega)) ?_
 refine WC.skip (WE.next (WC.seq (WC.region (WL.mv rfl rfl rfl rfl rfl ?_))))
 refine WL.val (.int .i64 (((n : Nat) : Int))) rfl rfl rfl (fun za zC zh zk => len_52 rfl (zh.ev rfl) zk) ?_
 refine WL.asg rfl rfl rfl rfl rfl (WL.nil (WE.next (WC.seq ?_)))
 refine WC.seqV (S := ((fun b => b = g))) [(true, .val (.slice ((some ⟨g, 0, none⟩)) n c)), (true, .val (.int .i64 (((i : Nat) : Int)))), (true, .val (.slice ((some ⟨g, 0, none⟩)) i c)), (true, .val (.slice ((some ⟨g, 0, none⟩)) n c)), (true, .val (.int .i64 ((((i + 1) : Nat) : Int)))), (true, .val (.slice ((slA ((some ⟨g, 0, none⟩)) ((i + 1)) 3 c)) ((n - (i + 1))) ((c - (i + 1))))), (true, .val undef), (true, .val undef)] [(1, .int .i64 (((i : Nat) : Int))), (2, .int .i64 ((((i + 1) : Nat) : Int))), (6, .slice none 0 0), (7, .int .i64 (((n : Nat) : Int))), (16, .bool (((((i : Nat) : Int) : Int) == ((((i + 1) : Nat) : Int) : Int))))] [6, 7] [some (true, .slice ((some ⟨g, 0, none⟩)) ((n - 1)) c), some (true, .slice ((some ⟨g, 0, none⟩)) ((n - 1)) c)] (DelG S9 g c n i L) DelG.below (by decide) ⟨rfl, rfl, rfl, rfl, rfl, trivial⟩ (by kernel_rfl) (by kernel_rfl) (by kernel_rfl) (by kernel_rfl) hR ?_ ?_
 ·refine ⟨.inl ⟨rfl, true, .none rfl, (fun gg b h => by cases h), fun h w => optUndef h, fun zβ za zw zc => ?_⟩, ?_⟩
  ·exact wp_move rfl ((evt za 0).trans (zc.old 0 _ rfl (by kernel_rfl))) ⟨_, rfl, Below.refl _ _, optDef zβ rfl⟩
  refine ⟨.inl ⟨rfl, true, .none rfl, (fun gg b h => by cases h), fun h w => optUndef h, fun zβ za zw zc => ?_⟩, ?_⟩
  ·exact wp_move rfl (zc.kn.ev rfl) ⟨_, rfl, Below.refl _ _, optDef zβ rfl⟩
  refine ⟨.inl ⟨rfl, true, .none rfl, (fun gg b h => by cases h), fun h w => optUndef h, fun zβ za zw zc => ?_⟩, ?_⟩
  ·exact shi_52 (k := i) rfl ((evt za 20).trans (optSVal (zc.dep 0 20 (by kernel_rfl) (by decide)) rfl rfl)) ((evt za 21).trans (optSVal (zc.dep 1 21 (by kernel_rfl) (by decide)) rfl rfl)) (by omega) ⟨_, rfl, Below.refl _ _, optDef zβ rfl⟩
  refine ⟨.inl ⟨rfl, true, .none rfl, (fun gg b h => by cases h), fun h w => optUndef h, fun zβ za zw zc => ?_⟩, ?_⟩
  ·exact wp_move rfl ((evt za 0).trans (zc.old 0 _ rfl (by kernel_rfl))) ⟨_, rfl, Below.refl _ _, optDef zβ rfl⟩
  refine ⟨.inl ⟨rfl, true, .none rfl, (fun gg b h => by cases h), fun h w => optUndef h, fun zβ za zw zc => ?_⟩, ?_⟩
  ·exact wp_move rfl (zc.kn.ev rfl) ⟨_, rfl, Below.refl _ _, optDef zβ rfl⟩
  refine ⟨.inl ⟨rfl, true, .none rfl, (fun gg b h => by cases h), fun h w => optUndef h, fun zβ za zw zc => ?_⟩, ?_⟩
  ·exact slo_52 (k := (i + 1)) rfl ((evt za 23).trans (optSVal (zc.dep 3 23 (by kernel_rfl) (by decide)) rfl rfl)) ((evt za 24).trans (optSVal (zc.dep 4 24 (by kernel_rfl) (by decide)) rfl rfl)) (by omega) (by omega) ⟨_, rfl, Below.refl _ _, optDef zβ rfl⟩
  refine ⟨.inr ⟨0, rfl, by kernel_rfl, true, .none rfl, (fun gg b h => by cases h), (fun h => (nomatch h)), fun zβ za zw zvals zc => ?_⟩, ?_⟩
  ·obtain rfl := vlen0 zc.len
   have zn := zc.now
   exact wp_appDel (E := eltR) (by decide) Try.underlying52 hti his rfl ((evt za 22).trans (optSVal (zc.dep 2 22 (by kernel_rfl) (by decide)) rfl rfl)) ((evt za 25).trans (optSVal (zc.dep 5 25 (by kernel_rfl) (by decide)) rfl rfl)) zn hi (fun w' h1 h2 => ⟨_, rfl, .ofUpd h1 rfl, h2, cvIs rfl⟩)
  refine ⟨.inr ⟨1, rfl, by kernel_rfl, true, .none rfl, (fun gg b h => by cases h), (fun h => (nomatch h)), fun zβ za zw zvals zc => ?_⟩, ?_⟩
  ·obtain ⟨z0, rfl⟩ := vlen1 zc.len
   have zn := zc.now
   exact wp_assign rfl (((evt za 26).trans (zc.link 0 6 26 _ _ rfl (by kernel_rfl) rfl rfl))) ⟨_, rfl, .ofBelow (Below.refl _ _), zn, cvIs rfl⟩
  exact trivial
 ·intro za w1 zvals zh zl hG2 hc3 zu zw zk
  obtain ⟨z0, z1, rfl⟩ := vlen2 zl
  have zh := zh.cons (d := 0) (v := .slice ((some ⟨g, 0, none⟩)) ((n - 1)) c) (zk 1 7 0 _ _ rfl (by kernel_rfl) rfl rfl)
  clear zu zw zk
  refine WE.go zh ?_
  refine WE.next (WC.seq (WC.region (WL.mv rfl rfl rfl rfl rfl (WL.mv rfl rfl rfl rfl rfl ?_))))
  refine WL.val (.int .i64 ((((n - 1) : Nat) : Int))) rfl rfl rfl (fun za zC zh zk => len_52 rfl (zh.ev rfl) zk) ?_
  refine WL.mv rfl rfl rfl rfl rfl ?_
  refine WL.val (.slice ((slA (some ⟨g, 0, none⟩) (n - 1) 3 c)) ((n - (n - 1))) ((c - (n - 1)))) rfl rfl rfl (fun za zC zh zk => slh_r (k := n - 1) (h := n) rfl (zh.ev rfl) (zh.ev rfl) (zh.ev rfl) (by omega) (by omega) zk) ?_
  refine WL.step (post := fun _ w' => Upd g w1 w' ∧ RowD eltR S9 w' 54 (some ⟨g, 0, none⟩) c (n - 1) (L.eraseIdx i)) rfl rfl rfl (fun za zC zh zk => wp_clearR rfl (zh.ev rfl) hG2 (by omega) (by omega) (fun w' h1 h2 => zk _ _ ⟨h1, h2⟩)) ?_
  rintro _ w4 ⟨hu9, hR9⟩
  refine WL.nil (WE.sub (K' := [(0, .slice ((some ⟨g, 0, none⟩)) ((n - 1)) c), (1, .int .i64 (((i : Nat) : Int))), (2, .int .i64 ((((i + 1) : Nat) : Int))), (6, .slice none 0 0), (7, .int .i64 (((n : Nat) : Int))), (16, .bool (((((i : Nat) : Int) : Int) == ((((i + 1) : Nat) : Int) : Int))))]) ⟨rfl, rfl, rfl, rfl, rfl, rfl, trivial⟩ ?_)
  refine WE.next (WC.seq (WC.region (WL.mv rfl rfl rfl rfl rfl (WL.asg rfl rfl rfl rfl rfl (WL.nil (WE.next (WC.ret (WE.ret1 rfl rfl ?_))))))))
  exact ⟨_, rfl, rfl, hR9, Chg.trans hc3 (.ofUpd hu9 rfl)⟩
end Go.Proofs.Ytibncmnmjhimeaa

/- A term is taken out of an index: the method. -/
namespace Go.Proofs.Ytibncmnmjhimeaa
open Go.RowKit Go
set_option linter.unusedVariables false
set_option linter.unusedSimpArgs false
/-- The map, while a key is struck or told anew. -/
def MapGo (m : Nat) (es : Array MapEntry) (clock : Nat) (KV : List (List Int × Value)) : List Value → World → Prop
 | [], w => ObjAt w m (.map es clock)
 | _ :: _, w => ∃ es' cl', ObjAt w m (.map es' cl') ∧ GmE encP okP es' cl' KV
theorem MapGo.below {m : Nat} {es : Array MapEntry} {clock : Nat} {KV : List (List Int × Value)} : ∀ (vals : List Value) (w w' : World), Below w.heap.size w w' → MapGo m es clock KV vals w → MapGo m es clock KV vals w'
 | [], _, _, hb, h => ObjAt.below h hb
 | _ :: _, _, _, hb, ⟨es', cl', h, h2⟩ => ⟨es', cl', ObjAt.below h hb, h2⟩
set_option maxRecDepth 100000 in
set_option maxHeartbeats 1000000 in
theorem fdel_any (g : Nat) (Z : Nat → Prop) (B : List TI) (w : World) (t : T) (v : Value) (id : Int) (hi64 : I64 id) (hBl : B.length ≤ 1000000) (ht : IsT w t v) (hin : (t, id) ∈ B) (hK : FpIs w g Z B) :
  Calls Try.prog 17 #[.pointer (some ⟨g, 0, none⟩), v, .int .i64 id] w (Ret fun v' w' => v' = .bool true ∧ FpIs w' g Z (delB t id B) ∧ Chg Z w w') := by
 have hvt := ht
 obtain ⟨_, ta, tc, rfl, _, _, _⟩ := ht.form
 have hK0 := hK
 obtain ⟨m, es, clock, KL, S9, hO, hZ, hZl⟩ := hK0
 have hgl := hO.blk.lt
 have hml := hO.obj.lt
 have hgm := hO.gm
 obtain ⟨a, c, hlk, hrw, hown, _⟩ := hO.look (prt t)
 have hbl : (bag B (prt t)).length ≤ B.length := List.length_filter_le _ _
 have hinb : (t, id) ∈ bag B (prt t) := List.mem_filter.2 ⟨hin, by simp⟩
 have hbn : 0 < (bag B (prt t)).length := List.length_pos_of_mem hinb
 obtain ⟨rb, rfl⟩ := rowD_some hrw hbn
 have hrb := hown rb rfl
 have hrbl : rb < w.heap.size := hrb.2.2.2.1
 have hrbg : rb ≠ g := hrb.1
 have hrbm : rb ≠ m := hrb.2.1
 have hlD := delB_len hinb
 refine Calls.walk (l := [.pointer (some ⟨g, 0, none⟩), .agg #[.int .i64 t.f, .slice ta t.args.length tc], .int .i64 id]) Try.func17 rfl (by kernel_rfl) ?_
 refine WC.sub (K' := [(0, .pointer (some ⟨g, 0, none⟩)), (1, .agg #[.int .i64 t.f, .slice ta t.args.length tc]), (2, .int .i64 id)]) ⟨rfl, rfl, rfl, trivial⟩ ?_
 refine WC.seq (WC.region ?_)
 refine WL.step (post := NewBlk w 24 #[.int .i64 t.f, .slice ta t.args.length tc]) rfl rfl rfl (fun za zC zh zk => box_24 rfl (zh.ev rfl) (zk _ _ (newBlk _ _ _))) ?_
 rintro _ w1 ⟨g2, rfl, hg3, hB4, hb5, hz6⟩
 have hl7 : w.heap.size ≤ g2 := by omega
 refine WL.step (post := NewBlk w1 3 #[.int .i64 id]) rfl rfl rfl (fun za zC zh zk => box_3 rfl (zh.ev rfl) (zk _ _ (newBlk _ _ _))) ?_
 rintro _ w8 ⟨g9, rfl, hg10, hB11, hb12, hz13⟩
 have hl14 : g2 < g9 := by have z1 := hB4.lt; omega
 have hl15 : w.heap.size ≤ g9 := by have z2 := (hb5).size; omega
 refine WL.asg rfl rfl rfl rfl rfl (WL.nil (WE.next (WC.seq (WC.seq (WC.region (WL.mv rfl rfl rfl rfl rfl ?_))))))
 have hb16 : Below w.heap.size w w8 := (bstep hb5 hb12)
 refine WL.call rfl rfl rfl (fun za zh zC => wp_call (by kernel_rfl) rfl (hv1 (zh.ev rfl))) (fok_any g Z B _ (FpIs.below hK hb16)) ?_
 rintro _ w18 ⟨rfl, hq17⟩
 refine WL.val (.bool false) rfl rfl rfl (fun za zC zh zk => wp_not rfl (zh.ev rfl) zk) ?_
 refine WL.nil (WE.next ?_)
 refine WC.condF rfl rfl ?_
 refine WC.skip (WE.next (WC.seq (WC.region ?_)))
 have hb20 : Below w1.heap.size w1 w18 := (bstep hb12 hq17)
 have hB19 := hB4.below hb20
 refine WL.val _ rfl rfl rfl (fun za zC zh zk => ld_24 rfl (zh.ev rfl) ((hB19.cell 0).trans rfl) ((hB19.cell 1).trans rfl) zk) ?_
 have hb21 : Below w.heap.size w w18 := (bstep hb5 hb20)
 refine WL.call rfl rfl rfl (fun za zh zC => wp_call (by kernel_rfl) rfl (hv1 (zh.ev rfl))) (of_any t _ _ (IsT.below hb21 hvt)) ?_
 rintro _ w22 ⟨rfl, hbo⟩
 refine WL.step (post := NewBlk w22 50 #[.int .i64 0, .int .i64 0, .int .i64 0, .int .i64 0, .int .i64 0, .int .i64 0, .int .i64 0, .int .i64 0]) rfl rfl rfl (fun za zC zh zk => alloc_50 rfl (zk _ _ (newBlk _ _ _))) ?_
 rintro _ w23 ⟨g24, rfl, hg25, hB26, hb27, hz28⟩
 have hl29 : g2 < g24 := by have z1 := hB19.lt; have z2 := (hbo).size; omega
 have hb30 : Below w8.heap.size w8 w22 := (bstep hq17 hbo)
 have hl31 : g9 < g24 := by have z1 := hB11.lt; have z2 := (hb30).size; omega
 have hb32 : Below w.heap.size w w22 := (bstep hb16 hb30)
 have hl33 : w.heap.size ≤ g24 := by have z2 := (hb32).size; omega
 refine WL.step (post := fun _ w' => Upd g24 w23 w' ∧ Blk w' g24 50 #[.int .i64 ((ltr t [])), .int .i64 ((ltr t [0])), .int .i64 ((ltr t [1])), .int .i64 ((ltr t [2])), .int .i64 ((ltr t [0, 0])), .int .i64 ((ltr t [0, 1])), .int .i64 ((ltr t [1, 0])), .int .i64 ((ltr t [1, 1]))]) rfl rfl rfl (fun za zC zh zk => st_50 rfl (zh.ev rfl) (zh.ev rfl) rfl rfl rfl rfl rfl rfl rfl rfl hB26 (by first | decide | simp) (fun v => by have zb0 : Blk _ g24 50 #[.int .i64 ((ltr t [])), .int .i64 0, .int .i64 0, .int .i64 0, .int .i64 0, .int .i64 0, .int .i64 0, .int .i64 0] := hB26.set_ 0 _; have zb1 : Blk _ g24 50 #[.int .i64 ((ltr t [])), .int .i64 ((ltr t [0])), .int .i64 0, .int .i64 0, .int .i64 0, .int .i64 0, .int .i64 0, .int .i64 0] := zb0.set_ 1 _; have zb2 : Blk _ g24 50 #[.int .i64 ((ltr t [])), .int .i64 ((ltr t [0])), .int .i64 ((ltr t [1])), .int .i64 0, .int .i64 0, .int .i64 0, .int .i64 0, .int .i64 0] := zb1.set_ 2 _; have zb3 : Blk _ g24 50 #[.int .i64 ((ltr t [])), .int .i64 ((ltr t [0])), .int .i64 ((ltr t [1])), .int .i64 ((ltr t [2])), .int .i64 0, .int .i64 0, .int .i64 0, .int .i64 0] := zb2.set_ 3 _; have zb4 : Blk _ g24 50 #[.int .i64 ((ltr t [])), .int .i64 ((ltr t [0])), .int .i64 ((ltr t [1])), .int .i64 ((ltr t [2])), .int .i64 ((ltr t [0, 0])), .int .i64 0, .int .i64 0, .int .i64 0] := zb3.set_ 4 _; have zb5 : Blk _ g24 50 #[.int .i64 ((ltr t [])), .int .i64 ((ltr t [0])), .int .i64 ((ltr t [1])), .int .i64 ((ltr t [2])), .int .i64 ((ltr t [0, 0])), .int .i64 ((ltr t [0, 1])), .int .i64 0, .int .i64 0] := zb4.set_ 5 _; have zb6 : Blk _ g24 50 #[.int .i64 ((ltr t [])), .int .i64 ((ltr t [0])), .int .i64 ((ltr t [1])), .int .i64 ((ltr t [2])), .int .i64 ((ltr t [0, 0])), .int .i64 ((ltr t [0, 1])), .int .i64 ((ltr t [1, 0])), .int .i64 0] := zb5.set_ 6 _; have zb7 : Blk _ g24 50 #[.int .i64 ((ltr t [])), .int .i64 ((ltr t [0])), .int .i64 ((ltr t [1])), .int .i64 ((ltr t [2])), .int .i64 ((ltr t [0, 0])), .int .i64 ((ltr t [0, 1])), .int .i64 ((ltr t [1, 0])), .int .i64 ((ltr t [1, 1]))] := zb6.set_ 7 _; exact zk v _ ⟨(((((((Upd.at_ _ _ _ _).trans (Upd.at_ _ _ _ _)).trans (Upd.at_ _ _ _ _)).trans (Upd.at_ _ _ _ _)).trans (Upd.at_ _ _ _ _)).trans (Upd.at_ _ _ _ _)).trans (Upd.at_ _ _ _ _)).trans (Upd.at_ _ _ _ _), zb7⟩)) ?_
 rintro v37 w34 ⟨hu35, hB36⟩
 have hb38 : Below w.heap.size w w23 := (bstep hb32 hb27)
 have hb39 := upd_below hb38 hu35 (by omega)
 have hb41 : Below w18.heap.size w18 w23 := (bstep hbo hb27)
 have hB40 := hB19.below hb41
 have hB42 := upd_blk hB40 hu35 (by omega)
 have hb44 : Below w8.heap.size w8 w23 := (bstep hq17 hb41)
 have hB43 := hB11.below hb44
 have hB45 := upd_blk hB43 hu35 (by omega)
 refine WL.nil (WE.next (WC.seq ?_))
 have hc46 := bkeeps hb39 _ _ hO.c0
 refine WC.opt [(true, .val (.pointer (some ⟨g, 0, none⟩))), (true, .val (.pointer (some ⟨g, 0, none⟩))), (true, .val (.pointer (some ⟨g, 0, none⟩))), (true, .val (.map ((some m)))), (true, .val (.agg #[.int .i64 ((ltr t [])), .int .i64 ((ltr t [0])), .int .i64 ((ltr t [1])), .int .i64 ((ltr t [2])), .int .i64 ((ltr t [0, 0])), .int .i64 ((ltr t [0, 1])), .int .i64 ((ltr t [1, 0])), .int .i64 ((ltr t [1, 1]))])), (true, .val (.slice ((some ⟨rb, 0, none⟩)) ((bag B (prt t)).length) c)), (true, .val (.slice ((some ⟨rb, 0, none⟩)) ((bag B (prt t)).length) c))] [(0, .pointer (some ⟨g, 0, none⟩)), (1, .agg #[.int .i64 t.f, .slice ta t.args.length tc]), (2, .int .i64 id), (4, .pointer (some ⟨g2, 0, none⟩)), (5, .pointer (some ⟨g9, 0, none⟩)), (6, .bool false), (7, .pointer (some ⟨g24, 0, none⟩)), (12, .bool false)] ⟨rfl, rfl, rfl, rfl, rfl, rfl, rfl, rfl, trivial⟩ (by kernel_rfl) (by kernel_rfl) (by kernel_rfl) ?_ ?_
 ·refine ⟨⟨true, .none rfl, fun h w => optUndef h, fun zβ za zw zc => ?_⟩, ?_⟩
  ·exact wp_move rfl (zc.kn.ev rfl) ⟨_, rfl, Below.refl _ _, optDef zβ rfl⟩
  refine ⟨⟨true, .none rfl, fun h w => optUndef h, fun zβ za zw zc => ?_⟩, ?_⟩
  ·exact nilCheck_ rfl ((evt za 15).trans (optVal (zc.dep 0 15 (by kernel_rfl)) rfl rfl)) ⟨_, rfl, Below.refl _ _, optDef zβ rfl⟩
  refine ⟨⟨true, .none rfl, fun h w => optUndef h, fun zβ za zw zc => ?_⟩, ?_⟩
  ·exact fld_48_0 rfl ((evt za 16).trans (optVal (zc.dep 1 16 (by kernel_rfl)) rfl rfl)) ⟨_, rfl, Below.refl _ _, optDef zβ rfl⟩
  refine ⟨⟨true, .none rfl, fun h w => optUndef h, fun zβ za zw zc => ?_⟩, ?_⟩
  ·exact ld_46 rfl ((evt za 17).trans (optVal (zc.dep 2 17 (by kernel_rfl)) rfl rfl)) (bkeeps zc.below _ _ hc46) ⟨_, rfl, Below.refl _ _, optDef zβ rfl⟩
  refine ⟨⟨true, .none rfl, fun h w => optUndef h, fun zβ za zw zc => ?_⟩, ?_⟩
  ·exact ld_50 rfl (zc.kn.ev rfl) (bkeeps zc.below _ _ ((hB36.cell 0).trans rfl)) (bkeeps zc.below _ _ ((hB36.cell 1).trans rfl)) (bkeeps zc.below _ _ ((hB36.cell 2).trans rfl)) (bkeeps zc.below _ _ ((hB36.cell 3).trans rfl)) (bkeeps zc.below _ _ ((hB36.cell 4).trans rfl)) (bkeeps zc.below _ _ ((hB36.cell 5).trans rfl)) (bkeeps zc.below _ _ ((hB36.cell 6).trans rfl)) (bkeeps zc.below _ _ ((hB36.cell 7).trans rfl)) ⟨_, rfl, Below.refl _ _, optDef zβ rfl⟩
  refine ⟨⟨true, .none rfl, fun h w => optUndef h, fun zβ za zw zc => ?_⟩, ?_⟩
  ·exact wp_look_gm keyP (n := prt t) rfl Try.underlying46 (zeroRows _) ((hO.obj.below hb39).below zc.below) hO.ent rfl ((evt za 18).trans (optVal (zc.dep 3 18 (by kernel_rfl)) rfl rfl)) ((evt za 19).trans (optVal (zc.dep 4 19 (by kernel_rfl)) rfl rfl)) (by rw [hlk]; exact ⟨_, rfl, Below.refl _ _, optDef zβ rfl⟩)
  refine ⟨⟨true, .none rfl, fun h w => optUndef h, fun zβ za zw zc => ?_⟩, ?_⟩
  ·exact wp_assign rfl ((evt za 20).trans (optVal (zc.dep 5 20 (by kernel_rfl)) rfl rfl)) ⟨_, rfl, Below.refl _ _, optDef zβ rfl⟩
  exact trivial
 ·intro za w47 zh hb48 zu
  have zh := zh.cons (d := 8) (v := .slice ((some ⟨rb, 0, none⟩)) ((bag B (prt t)).length) c) (optVal (zu 6 8 (by kernel_rfl)) rfl rfl)
  clear zu
  refine WE.go zh ?_
  refine WE.next (WC.seq (WC.region (WL.mv rfl rfl rfl rfl rfl ?_)))
  refine WL.val (.func (Fn.func 36) #[] #[.pointer (some ⟨g9, 0, none⟩), .pointer (some ⟨g2, 0, none⟩)]) rfl rfl rfl (fun za zC zh zk => mkfn rfl (hv0) (hv2 (zh.ev rfl) (zh.ev rfl)) zk) ?_
  have hB49 := hB45.below hb48
  have hB50 := hB42.below hb48
  have hb51 : Below w.heap.size w w47 := (bstep hb39 hb48)
  have hRI := (hrw.below hb51).inRow.1
  refine WL.call rfl rfl rfl (fun za zh zC => wp_call (by kernel_rfl) rfl (hv2 (zh.ev rfl) (zh.ev rfl))) (first_any (bag B (prt t)) t id g9 g2 _ _ _ _ _ (by omega) hRI hB49 hB50 (hvt.below hb51) hinb) ?_
  rintro _ w52 ⟨⟨i, rfl, hil, hih, hif⟩, hbi⟩
  refine WL.asg rfl rfl rfl rfl rfl (WL.nil (WE.next (WC.seq (WC.seq (WC.region (WL.mv rfl rfl rfl rfl rfl ?_))))))
  refine WL.val (.bool ((decide ((((i : Nat) : Int) : Int) < (0 : Int))))) rfl rfl rfl (fun za zC zh zk => lss_3 rfl (zh.ev rfl) (zh.ev rfl) zk) ?_
  refine WL.nil (WE.next ?_)
  refine WC.condF rfl ((by simp)) ?_
  refine WC.skip (WE.next (WC.seq ?_))
  have hb53 : Below w.heap.size w w52 := (bstep hb51 hbi)
  have hb7 := hb53
  have hBg7 := hO.blk.below hb7
  have hws7 : w.heap.size ≤ w52.heap.size := hb7.size
  have hB54 := hB50.below hbi
  have hl55 : w.heap.size ≤ g2 := by omega
  have hB56 := hB49.below hbi
  have hl57 : w.heap.size ≤ g9 := by omega
  have hb59 : Below w34.heap.size w34 w52 := (bstep hb48 hbi)
  have hB58 := hB36.below hb59
  have hl60 : w.heap.size ≤ g24 := by omega
  refine WC.region (WL.mv rfl rfl rfl rfl rfl ?_)
  refine WL.val _ rfl rfl rfl (fun za zC zh zk => nilCheck_ rfl (zh.ev rfl) zk) ?_
  refine WL.val _ rfl rfl rfl (fun za zC zh zk => fld_48_1 rfl (zh.ev rfl) zk) ?_
  refine WL.val _ rfl rfl rfl (fun za zC zh zk => ld_3 rfl (zh.ev rfl) ((hBg7.cell 1).trans rfl) zk) ?_
  refine WL.val (.int .i64 ((((B.length - 1) : Nat) : Int))) rfl rfl rfl (fun za zC zh zk => subb_3 rfl (zh.ev rfl) (zh.ev rfl) (wrap_eq (by omega) (by omega) (by omega)) zk) ?_
  refine WL.val _ rfl rfl rfl (fun za zC zh zk => nilCheck_ rfl (zh.ev rfl) zk) ?_
  refine WL.val _ rfl rfl rfl (fun za zC zh zk => fld_48_1 rfl (zh.ev rfl) zk) ?_
  refine WL.step (post := fun _ w' => Upd g w52 w' ∧ Blk w' g 48 #[.map ((some m)), .int .i64 ((((B.length - 1) : Nat) : Int))]) rfl rfl rfl (fun za zC zh zk => st_3 rfl (zh.ev rfl) (zh.ev rfl) hBg7 (by first | decide | simp) (fun v => zk v _ ⟨Upd.at_ _ _ _ _, hBg7.set_ 1 _⟩)) ?_
  rintro v64 w61 ⟨hu62, hB63⟩
  have hB65 := upd_blk hB58 hu62 (by omega)
  refine WL.nil (WE.sub (K' := [(0, .pointer (some ⟨g, 0, none⟩)), (1, .agg #[.int .i64 t.f, .slice ta t.args.length tc]), (2, .int .i64 id), (4, .pointer (some ⟨g2, 0, none⟩)), (5, .pointer (some ⟨g9, 0, none⟩)), (6, .bool false), (7, .pointer (some ⟨g24, 0, none⟩)), (8, .slice ((some ⟨rb, 0, none⟩)) ((bag B (prt t)).length) c), (9, .int .i64 (((i : Nat) : Int))), (12, .bool false), (25, .bool ((decide ((((i : Nat) : Int) : Int) < (0 : Int)))))]) ⟨rfl, rfl, rfl, rfl, rfl, rfl, rfl, rfl, rfl, rfl, rfl, trivial⟩ ?_)
  refine WE.next (WC.seq (WC.seq (WC.region (WL.mv rfl rfl rfl rfl rfl (WL.mv rfl rfl rfl rfl rfl (WL.mv rfl rfl rfl rfl rfl ?_))))))
  refine WL.val (.int .i64 ((((i + 1) : Nat) : Int))) rfl rfl rfl (fun za zC zh zk => addb_3 rfl (zh.ev rfl) (zh.ev rfl) (wrap_eq (by omega) (by omega) (by omega)) zk) ?_
  have hR8 : RowD eltR S9 w61 54 (some ⟨rb, 0, none⟩) c (bag B (prt t)).length (bag B (prt t)) := (hrw.below hb7).chg (Z := fun b => b = g) (.ofUpd hu62 rfl) (fun b q e => (hown b q).1 e) (fun b q e => (hO.sS b q).1 e)
  refine WL.call rfl rfl rfl (fun za zh zC => wp_call (by kernel_rfl) rfl (hv3 (zh.ev rfl) (zh.ev rfl) (zh.ev rfl))) (delete_any _ hR8 hil (by omega)) ?_
  rintro _ w66 ⟨rfl, hR9, hc9⟩
  have hB67 := chg_blk hB65 hc9 (fun e => by omega)
  have hB68 := chg_blk hB63 hc9 (fun e => by omega)
  rw [delB_first hil (by rw [← rget_lt]; exact hih) (fun j hj => by rw [← rget_lt]; exact hif j hj)] at hR9
  have hOb9 : ObjAt w66 m (.map es clock) := ((hO.obj.below hb7).chg (S := fun b => b = g) (.ofUpd hu62 rfl) (fun e => by have e : m = g := e; omega)).chg hc9 (fun e => by have e : m = rb := e; omega)
  refine WL.asg rfl rfl rfl rfl rfl (WL.nil (WE.next (WC.seq (WC.region (WL.mv rfl rfl rfl rfl rfl ?_)))))
  refine WL.val (.int .i64 (((((bag B (prt t)).length - 1) : Nat) : Int))) rfl rfl rfl (fun za zC zh zk => len_52 rfl (zh.ev rfl) zk) ?_
  refine WL.val (.bool (((((((bag B (prt t)).length - 1) : Nat) : Int) : Int) == (0 : Int)))) rfl rfl rfl (fun za zC zh zk => eql_3 rfl (zh.ev rfl) (zh.ev rfl) zk) ?_
  refine WL.nil (WE.next ?_)
  refine WC.cond rfl (fun h69 => ?_) (fun h69 => ?_)
  ·have h69 : (((((bag B (prt t)).length - 1) : Nat) : Int) : Int) = (0 : Int) := by simpa using h69
   have hne9 : (delB t id (bag B (prt t))) = [] := by
    have z := h69
    exact List.length_eq_zero_iff.1 (by omega)
   refine WC.seq ?_
   have hOb0 : ObjAt w66 m (.map es clock) := hOb9.below (Below.refl _ _)
   refine WC.seqV (S := ((fun b => b = m))) [(true, .val (.pointer (some ⟨g, 0, none⟩))), (true, .val (.pointer (some ⟨g, 0, none⟩))), (true, .val (.pointer (some ⟨g, 0, none⟩))), (true, .val (.map ((some m)))), (true, .val (.agg #[.int .i64 ((ltr t [])), .int .i64 ((ltr t [0])), .int .i64 ((ltr t [1])), .int .i64 ((ltr t [2])), .int .i64 ((ltr t [0, 0])), .int .i64 ((ltr t [0, 1])), .int .i64 ((ltr t [1, 0])), .int .i64 ((ltr t [1, 1]))])), (true, .val undef)] [(0, .pointer (some ⟨g, 0, none⟩)), (1, .agg #[.int .i64 t.f, .slice ta t.args.length tc]), (2, .int .i64 id), (4, .pointer (some ⟨g2, 0, none⟩)), (5, .pointer (some ⟨g9, 0, none⟩)), (6, .bool false), (7, .pointer (some ⟨g24, 0, none⟩)), (8, .slice ((some ⟨rb, 0, none⟩)) (((bag B (prt t)).length - 1)) c), (9, .int .i64 (((i : Nat) : Int))), (12, .bool false), (25, .bool ((decide ((((i : Nat) : Int) : Int) < (0 : Int))))), (40, .bool (((((((bag B (prt t)).length - 1) : Nat) : Int) : Int) == (0 : Int))))] [5] [none] (MapGo m es clock ((KLdel KL (prt t)).map bkV)) MapGo.below (by decide) ⟨rfl, rfl, rfl, rfl, rfl, rfl, rfl, rfl, rfl, rfl, rfl, rfl, trivial⟩ (by kernel_rfl) (by kernel_rfl) (by kernel_rfl) (by kernel_rfl) hOb0 ?_ ?_
   ·refine ⟨.inl ⟨rfl, true, .none rfl, (fun gg b h => by cases h), fun h w => optUndef h, fun zβ za zw zc => ?_⟩, ?_⟩
    ·exact wp_move rfl (zc.kn.ev rfl) ⟨_, rfl, Below.refl _ _, optDef zβ rfl⟩
    refine ⟨.inl ⟨rfl, true, .none rfl, (fun gg b h => by cases h), fun h w => optUndef h, fun zβ za zw zc => ?_⟩, ?_⟩
    ·exact nilCheck_ rfl ((evt za 41).trans (optSVal (zc.dep 0 41 (by kernel_rfl) (by decide)) rfl rfl)) ⟨_, rfl, Below.refl _ _, optDef zβ rfl⟩
    refine ⟨.inl ⟨rfl, true, .none rfl, (fun gg b h => by cases h), fun h w => optUndef h, fun zβ za zw zc => ?_⟩, ?_⟩
    ·exact fld_48_0 rfl ((evt za 42).trans (optSVal (zc.dep 1 42 (by kernel_rfl) (by decide)) rfl rfl)) ⟨_, rfl, Below.refl _ _, optDef zβ rfl⟩
    refine ⟨.inl ⟨rfl, true, .none rfl, (fun gg b h => by cases h), fun h w => optUndef h, fun zβ za zw zc => ?_⟩, ?_⟩
    ·exact ld_46 rfl ((evt za 43).trans (optSVal (zc.dep 2 43 (by kernel_rfl) (by decide)) rfl rfl)) (chg_cell zc.chg (by (try dsimp only at *); omega) ((hB68.cell 0).trans rfl)) ⟨_, rfl, Below.refl _ _, optDef zβ rfl⟩
    refine ⟨.inl ⟨rfl, true, .none rfl, (fun gg b h => by cases h), fun h w => optUndef h, fun zβ za zw zc => ?_⟩, ?_⟩
    ·exact ld_50 rfl (zc.kn.ev rfl) (chg_cell zc.chg (by (try dsimp only at *); omega) ((hB67.cell 0).trans rfl)) (chg_cell zc.chg (by (try dsimp only at *); omega) ((hB67.cell 1).trans rfl)) (chg_cell zc.chg (by (try dsimp only at *); omega) ((hB67.cell 2).trans rfl)) (chg_cell zc.chg (by (try dsimp only at *); omega) ((hB67.cell 3).trans rfl)) (chg_cell zc.chg (by (try dsimp only at *); omega) ((hB67.cell 4).trans rfl)) (chg_cell zc.chg (by (try dsimp only at *); omega) ((hB67.cell 5).trans rfl)) (chg_cell zc.chg (by (try dsimp only at *); omega) ((hB67.cell 6).trans rfl)) (chg_cell zc.chg (by (try dsimp only at *); omega) ((hB67.cell 7).trans rfl)) ⟨_, rfl, Below.refl _ _, optDef zβ rfl⟩
    refine ⟨.inr ⟨0, rfl, by kernel_rfl, true, .none rfl, (fun gg b h => by cases h), (fun h => (nomatch h)), fun zβ za zw zvals zc => ?_⟩, ?_⟩
    ·obtain rfl := vlen0 zc.len
     have zn := zc.now
     refine wp_del_gm keyP (n := prt t) rfl Try.underlying46 zn hO.ent rfl ((evt za 44).trans (optSVal (zc.dep 3 44 (by kernel_rfl) (by decide)) rfl rfl)) ((evt za 45).trans (optSVal (zc.dep 4 45 (by kernel_rfl) (by decide)) rfl rfl)) (fun w' es' cl' h1 h2 h3 => ?_)
     rw [← KLdel_map] at h2
     exact ⟨_, rfl, .ofUpd h3 rfl, ⟨es', cl', h1, h2⟩, cvNo⟩
    exact trivial
   ·intro za w70 zvals zh zl hG71 hc72 zu zw zk
    obtain ⟨z0, rfl⟩ := vlen1 zl
    obtain ⟨es2, cl2, hk1, hk2⟩ := hG71
    have hBg9 := chg_blk hB68 hc72 (fun e => by have e : g = m := e; omega)
    clear zu zw zk
    refine WE.go zh ?_
    refine WE.next (WC.seq (WC.region (WL.asg rfl rfl rfl rfl rfl (WL.nil (WE.next (WC.ret (WE.thenRet (WE.ret1 rfl rfl ?_))))))))
    have hcA : Chg (fun b => b = g ∨ b = m ∨ obk (some ⟨rb, 0, none⟩) (bag B (prt t)).length c = some b) w w70 := Chg.trans (Chg.trans (Chg.trans (Chg.trans (Chg.trans (.ofBelow hb7) (.ofUpd hu62 (.inl rfl))) (hc9.mono (fun b q => .inr (.inr (by rw [show b = rb from q]; rfl))))) (.ofBelow (Below.refl _ _))) (hc72.mono (fun b q => .inr (.inl q)))) (.ofBelow (Below.refl _ _))
    have hR0 : RowD eltR S9 w70 54 (some ⟨rb, 0, none⟩) c ((bag B (prt t)).length - 1) (delB t id (bag B (prt t))) := ((hR9.below (Below.refl _ _)).chg hc72 (fun b q e => by have q2 : rb = b := Option.some.inj q; have e2 : b = m := e; omega) (fun b q e => (hO.sS b q).2.1 e)).below (Below.refl _ _)
    have hmem9 : ∀ y ∈ (KLdel KL (prt t)), (y = ⟨prt t, some ⟨rb, 0, none⟩, c, (delB t id (bag B (prt t)))⟩ ∧ (delB t id (bag B (prt t))) ≠ []) ∨ (y ∈ KL ∧ y.key ≠ prt t) := fun y hy => by
     exact .inr (KLdel_mem hO.nd hy)
    have hF := FpO.removed (KL2 := (KLdel KL (prt t))) hO hin hown (hBg9.below (Below.refl _ _)) (hk1.below (Below.refl _ _)) hk2 (KLdel_nd hO.nd) hR0 hmem9 (fun y hy hne => KLdel_keep hy hne) (fun q => absurd hne9 q) hcA
    refine ⟨_, rfl, rfl, ⟨m, es2, cl2, _, S9, hF, fun b q => ?_, fun b q => Nat.lt_of_lt_of_le (hZl b q) hcA.size⟩, hcA.mono (fun b q => ?_)⟩
    ·rcases q with q | q | q | ⟨x, hx, q⟩
     ·exact hZ b (.inl q)
     ·exact hZ b (.inr (.inl q))
     ·exact hZ b (.inr (.inr (.inl q)))
     ·rcases hmem9 x hx with ⟨rfl, _⟩ | ⟨hx, _⟩
      ·exact hZ b (hown b (obk_nn.trans q)).2.2.2.2.1
      ·exact hZ b (.inr (.inr (.inr ⟨x, hx, q⟩)))
    ·rcases q with q | q | q
     ·exact hZ b (.inl q)
     ·exact hZ b (.inr (.inl q))
     ·exact hZ b (hown b q).2.2.2.2.1
  ·have h69 : ¬ ((((((bag B (prt t)).length - 1) : Nat) : Int) : Int) = (0 : Int)) := by simpa using h69
   have hne9 : (delB t id (bag B (prt t))) ≠ [] := by
    have z := h69
    intro e; rw [e] at hlD; simp at hlD; omega
   refine WC.skip (WE.next (WC.seq ?_))
   have hOb0 : ObjAt w66 m (.map es clock) := hOb9.below (Below.refl _ _)
   refine WC.seqV (S := ((fun b => b = m))) [(true, .val (.pointer (some ⟨g, 0, none⟩))), (true, .val (.pointer (some ⟨g, 0, none⟩))), (true, .val (.pointer (some ⟨g, 0, none⟩))), (true, .val (.map ((some m)))), (true, .val (.agg #[.int .i64 ((ltr t [])), .int .i64 ((ltr t [0])), .int .i64 ((ltr t [1])), .int .i64 ((ltr t [2])), .int .i64 ((ltr t [0, 0])), .int .i64 ((ltr t [0, 1])), .int .i64 ((ltr t [1, 0])), .int .i64 ((ltr t [1, 1]))])), (true, .val (.slice ((some ⟨rb, 0, none⟩)) (((bag B (prt t)).length - 1)) c)), (true, .val undef)] [(0, .pointer (some ⟨g, 0, none⟩)), (1, .agg #[.int .i64 t.f, .slice ta t.args.length tc]), (2, .int .i64 id), (4, .pointer (some ⟨g2, 0, none⟩)), (5, .pointer (some ⟨g9, 0, none⟩)), (6, .bool false), (7, .pointer (some ⟨g24, 0, none⟩)), (8, .slice ((some ⟨rb, 0, none⟩)) (((bag B (prt t)).length - 1)) c), (9, .int .i64 (((i : Nat) : Int))), (12, .bool false), (25, .bool ((decide ((((i : Nat) : Int) : Int) < (0 : Int))))), (40, .bool (((((((bag B (prt t)).length - 1) : Nat) : Int) : Int) == (0 : Int))))] [6] [none] (MapGo m es clock ((KLput KL ⟨prt t, some ⟨rb, 0, none⟩, c, (delB t id (bag B (prt t)))⟩).map bkV)) MapGo.below (by decide) ⟨rfl, rfl, rfl, rfl, rfl, rfl, rfl, rfl, rfl, rfl, rfl, rfl, trivial⟩ (by kernel_rfl) (by kernel_rfl) (by kernel_rfl) (by kernel_rfl) hOb0 ?_ ?_
   ·refine ⟨.inl ⟨rfl, true, .none rfl, (fun gg b h => by cases h), fun h w => optUndef h, fun zβ za zw zc => ?_⟩, ?_⟩
    ·exact wp_move rfl (zc.kn.ev rfl) ⟨_, rfl, Below.refl _ _, optDef zβ rfl⟩
    refine ⟨.inl ⟨rfl, true, .none rfl, (fun gg b h => by cases h), fun h w => optUndef h, fun zβ za zw zc => ?_⟩, ?_⟩
    ·exact nilCheck_ rfl ((evt za 46).trans (optSVal (zc.dep 0 46 (by kernel_rfl) (by decide)) rfl rfl)) ⟨_, rfl, Below.refl _ _, optDef zβ rfl⟩
    refine ⟨.inl ⟨rfl, true, .none rfl, (fun gg b h => by cases h), fun h w => optUndef h, fun zβ za zw zc => ?_⟩, ?_⟩
    ·exact fld_48_0 rfl ((evt za 47).trans (optSVal (zc.dep 1 47 (by kernel_rfl) (by decide)) rfl rfl)) ⟨_, rfl, Below.refl _ _, optDef zβ rfl⟩
    refine ⟨.inl ⟨rfl, true, .none rfl, (fun gg b h => by cases h), fun h w => optUndef h, fun zβ za zw zc => ?_⟩, ?_⟩
    ·exact ld_46 rfl ((evt za 48).trans (optSVal (zc.dep 2 48 (by kernel_rfl) (by decide)) rfl rfl)) (chg_cell zc.chg (by (try dsimp only at *); omega) ((hB68.cell 0).trans rfl)) ⟨_, rfl, Below.refl _ _, optDef zβ rfl⟩
    refine ⟨.inl ⟨rfl, true, .none rfl, (fun gg b h => by cases h), fun h w => optUndef h, fun zβ za zw zc => ?_⟩, ?_⟩
    ·exact ld_50 rfl (zc.kn.ev rfl) (chg_cell zc.chg (by (try dsimp only at *); omega) ((hB67.cell 0).trans rfl)) (chg_cell zc.chg (by (try dsimp only at *); omega) ((hB67.cell 1).trans rfl)) (chg_cell zc.chg (by (try dsimp only at *); omega) ((hB67.cell 2).trans rfl)) (chg_cell zc.chg (by (try dsimp only at *); omega) ((hB67.cell 3).trans rfl)) (chg_cell zc.chg (by (try dsimp only at *); omega) ((hB67.cell 4).trans rfl)) (chg_cell zc.chg (by (try dsimp only at *); omega) ((hB67.cell 5).trans rfl)) (chg_cell zc.chg (by (try dsimp only at *); omega) ((hB67.cell 6).trans rfl)) (chg_cell zc.chg (by (try dsimp only at *); omega) ((hB67.cell 7).trans rfl)) ⟨_, rfl, Below.refl _ _, optDef zβ rfl⟩
    refine ⟨.inl ⟨rfl, true, .none rfl, (fun gg b h => by cases h), fun h w => optUndef h, fun zβ za zw zc => ?_⟩, ?_⟩
    ·exact wp_move rfl (zc.kn.ev rfl) ⟨_, rfl, Below.refl _ _, optDef zβ rfl⟩
    refine ⟨.inr ⟨0, rfl, by kernel_rfl, true, .none rfl, (fun gg b h => by cases h), (fun h => (nomatch h)), fun zβ za zw zvals zc => ?_⟩, ?_⟩
    ·obtain rfl := vlen0 zc.len
     have zn := zc.now
     refine wp_put_gm keyP (n := prt t) (v := .slice (some ⟨rb, 0, none⟩) (delB t id (bag B (prt t))).length c) rfl Try.underlying46 zn hO.ent rfl ((evt za 49).trans (optSVal (zc.dep 3 49 (by kernel_rfl) (by decide)) rfl rfl)) ((evt za 50).trans (optSVal (zc.dep 4 50 (by kernel_rfl) (by decide)) rfl rfl)) (by rw [show (delB t id (bag B (prt t))).length = (bag B (prt t)).length - 1 by omega]; exact ((evt za 51).trans (optSVal (zc.dep 5 51 (by kernel_rfl) (by decide)) rfl rfl))) (fun w' es' cl' h1 h2 h3 => ?_)
     rw [← KLput_map KL ⟨prt t, some ⟨rb, 0, none⟩, c, (delB t id (bag B (prt t)))⟩] at h2
     exact ⟨_, rfl, .ofUpd h3 rfl, ⟨es', cl', h1, h2⟩, cvNo⟩
    exact trivial
   ·intro za w73 zvals zh zl hG74 hc75 zu zw zk
    obtain ⟨z0, rfl⟩ := vlen1 zl
    obtain ⟨es2, cl2, hk1, hk2⟩ := hG74
    have hBg9 := chg_blk hB68 hc75 (fun e => by have e : g = m := e; omega)
    clear zu zw zk
    refine WE.go zh ?_
    refine WE.next (WC.seq (WC.region (WL.asg rfl rfl rfl rfl rfl (WL.nil (WE.next (WC.ret (WE.ret1 rfl rfl ?_)))))))
    have hcA : Chg (fun b => b = g ∨ b = m ∨ obk (some ⟨rb, 0, none⟩) (bag B (prt t)).length c = some b) w w73 := Chg.trans (Chg.trans (Chg.trans (Chg.trans (Chg.trans (.ofBelow hb7) (.ofUpd hu62 (.inl rfl))) (hc9.mono (fun b q => .inr (.inr (by rw [show b = rb from q]; rfl))))) (.ofBelow (Below.refl _ _))) (hc75.mono (fun b q => .inr (.inl q)))) (.ofBelow (Below.refl _ _))
    have hR0 : RowD eltR S9 w73 54 (some ⟨rb, 0, none⟩) c ((bag B (prt t)).length - 1) (delB t id (bag B (prt t))) := ((hR9.below (Below.refl _ _)).chg hc75 (fun b q e => by have q2 : rb = b := Option.some.inj q; have e2 : b = m := e; omega) (fun b q e => (hO.sS b q).2.1 e)).below (Below.refl _ _)
    have hmem9 : ∀ y ∈ (KLput KL ⟨prt t, some ⟨rb, 0, none⟩, c, (delB t id (bag B (prt t)))⟩), (y = ⟨prt t, some ⟨rb, 0, none⟩, c, (delB t id (bag B (prt t)))⟩ ∧ (delB t id (bag B (prt t))) ≠ []) ∨ (y ∈ KL ∧ y.key ≠ prt t) := fun y hy => by
     exact (KLput_mem hO.nd hy).imp (fun e => ⟨e, hne9⟩) (fun e => e)
    have hF := FpO.removed (KL2 := (KLput KL ⟨prt t, some ⟨rb, 0, none⟩, c, (delB t id (bag B (prt t)))⟩)) hO hin hown (hBg9.below (Below.refl _ _)) (hk1.below (Below.refl _ _)) hk2 (KLput_nd hO.nd) hR0 hmem9 (fun y hy hne => KLput_keep hy hne) (fun _ => KLput_has) hcA
    refine ⟨_, rfl, rfl, ⟨m, es2, cl2, _, S9, hF, fun b q => ?_, fun b q => Nat.lt_of_lt_of_le (hZl b q) hcA.size⟩, hcA.mono (fun b q => ?_)⟩
    ·rcases q with q | q | q | ⟨x, hx, q⟩
     ·exact hZ b (.inl q)
     ·exact hZ b (.inr (.inl q))
     ·exact hZ b (.inr (.inr (.inl q)))
     ·rcases hmem9 x hx with ⟨rfl, _⟩ | ⟨hx, _⟩
      ·exact hZ b (hown b (obk_nn.trans q)).2.2.2.2.1
      ·exact hZ b (.inr (.inr (.inr ⟨x, hx, q⟩)))
    ·rcases q with q | q | q
     ·exact hZ b (.inl q)
     ·exact hZ b (.inr (.inl q))
     ·exact hZ b (hown b q).2.2.2.2.1
end Go.Proofs.Ytibncmnmjhimeaa

/- An index is asked: the program. -/
namespace Go.Proofs.Ytibncmnmjhimeaa
open Go.RowKit Go
set_option linter.unusedVariables false
set_option linter.unusedSimpArgs false
/-- The three ways' functions. -/
def fnW : Nat → FuncId
 | 0 => 28
 | 1 => 29
 | _ => 30
theorem callW (way : Nat) : callB Try.prog (fnW way) = true := by
 match way with
 | 0 => show callB Try.prog 28 = true; kernel_rfl
 | 1 => show callB Try.prog 29 = true; kernel_rfl
 | n + 2 => show callB Try.prog 30 = true; kernel_rfl
theorem fits_any (way : Nat) (x y : Int) (w : World) : Calls Try.prog (fnW way) #[.int .i64 x, .int .i64 y] w (Ret fun v' w' => v' = .bool (ltW way x y) ∧ Below w.heap.size w w') := by
 match way with
 | 0 => exact fU_any x y w
 | 1 => exact fG_any x y w
 | n + 2 => exact fI_any x y w
set_option maxRecDepth 100000 in
theorem askw_end (way g5 g7 g9 : Nat) (q0 q1 q2 q3 q4 q5 q6 q7 : Int) (p0 p1 p2 p3 p4 p5 p6 p7 : Int) (w : World) (h5 : Blk w g5 56 #[.func (.func (fnW way)) #[] #[]]) (h7 : Blk w g7 50 #[.int .i64 q0, .int .i64 q1, .int .i64 q2, .int .i64 q3, .int .i64 q4, .int .i64 q5, .int .i64 q6, .int .i64 q7]) (h9 : Blk w g9 75 #[.func (.func 41) #[] #[.pointer (some ⟨g5, 0, none⟩), .pointer (some ⟨g7, 0, none⟩), .pointer (some ⟨g9, 0, none⟩)]]) : Calls Try.prog 41 #[.agg #[.int .i64 p0, .int .i64 p1, .int .i64 p2, .int .i64 p3, .int .i64 p4, .int .i64 p5, .int .i64 p6, .int .i64 p7], .int .i64 (8 : Int), .pointer (some ⟨g5, 0, none⟩), .pointer (some ⟨g7, 0, none⟩), .pointer (some ⟨g9, 0, none⟩)] w (Ret fun v' w' => v' = .bool (fitP way (List.drop (8) [p0, p1, p2, p3, p4, p5, p6, p7]) (List.drop (8) [q0, q1, q2, q3, q4, q5, q6, q7])) ∧ Below w.heap.size w w') := by
 skip
 refine Calls.walk (l := [.agg #[.int .i64 p0, .int .i64 p1, .int .i64 p2, .int .i64 p3, .int .i64 p4, .int .i64 p5, .int .i64 p6, .int .i64 p7], .int .i64 8, .pointer (some ⟨g5, 0, none⟩), .pointer (some ⟨g7, 0, none⟩), .pointer (some ⟨g9, 0, none⟩)]) Try.func41 rfl (by kernel_rfl) ?_
 refine WC.sub (K' := [(0, .agg #[.int .i64 p0, .int .i64 p1, .int .i64 p2, .int .i64 p3, .int .i64 p4, .int .i64 p5, .int .i64 p6, .int .i64 p7]), (1, .int .i64 8), (2, .pointer (some ⟨g5, 0, none⟩)), (3, .pointer (some ⟨g7, 0, none⟩)), (4, .pointer (some ⟨g9, 0, none⟩))]) ⟨rfl, rfl, rfl, rfl, rfl, trivial⟩ ?_
 refine WC.seq (WC.region ?_)
 refine WL.step (post := NewBlk w 50 #[.int .i64 p0, .int .i64 p1, .int .i64 p2, .int .i64 p3, .int .i64 p4, .int .i64 p5, .int .i64 p6, .int .i64 p7]) rfl rfl rfl (fun za zC zh zk => box_50 rfl (zh.ev rfl) (zk _ _ (newBlk _ _ _))) ?_
 rintro _ w1 ⟨g2, rfl, hg3, hB4, hb5, hz6⟩
 have hl7 : g5 < g2 := by have z1 := h5.lt; omega
 have hl8 : g7 < g2 := by have z1 := h7.lt; omega
 have hl9 : g9 < g2 := by have z1 := h9.lt; omega
 have hl10 : w.heap.size ≤ g2 := by omega
 refine WL.asg rfl rfl rfl rfl rfl (WL.nil (WE.next (WC.seq ?_)))
 refine WC.opt [(true, .val (.int .i64 8)), (true, .val (.bool true)), (true, .val (.bool true)), ((true && !true), .val undef), ((true && !true), .val undef), ((true && !true), .val undef), ((true && !true), .val undef), ((true && !true), .val undef), ((true && !true), .val undef), ((true && !true), .val undef), ((true && !true), .val undef), ((true && !true), .val (.bool false)), (((true && !true) && false), .val undef), (((true && !true) && false), .val undef), (((true && !true) && false), .val undef), (((true && !true) && false), .val undef), (((true && !true) && false), .val undef), ((true && !true), .val undef), (true, .val (.bool true)), (true, .val (.bool true))] [(0, .agg #[.int .i64 p0, .int .i64 p1, .int .i64 p2, .int .i64 p3, .int .i64 p4, .int .i64 p5, .int .i64 p6, .int .i64 p7]), (1, .int .i64 8), (2, .pointer (some ⟨g5, 0, none⟩)), (3, .pointer (some ⟨g7, 0, none⟩)), (4, .pointer (some ⟨g9, 0, none⟩)), (5, .pointer (some ⟨g2, 0, none⟩))] ⟨rfl, rfl, rfl, rfl, rfl, rfl, trivial⟩ (by kernel_rfl) (by kernel_rfl) (by kernel_rfl) ?_ ?_
 ·refine ⟨⟨true, .none rfl, fun h w => optUndef h, fun zβ za zw zc => ?_⟩, ?_⟩
  ·exact wp_move rfl (zc.kn.ev rfl) ⟨_, rfl, Below.refl _ _, optDef zβ rfl⟩
  refine ⟨⟨true, .none rfl, fun h w => optUndef h, fun zβ za zw zc => ?_⟩, ?_⟩
  ·exact eql_3 rfl ((evt za 8).trans (optVal (zc.dep 0 8 (by kernel_rfl)) rfl rfl)) (zc.kn.ev rfl) (by rw [show ((8 : Int) == (8 : Int)) = true from rfl]; exact ⟨_, rfl, Below.refl _ _, optDef zβ rfl⟩)
  refine ⟨⟨true, .none rfl, fun h w => optUndef h, fun zβ za zw zc => ?_⟩, ?_⟩
  ·exact wp_move rfl ((evt za 9).trans (optVal (zc.dep 1 9 (by kernel_rfl)) rfl rfl)) ⟨_, rfl, Below.refl _ _, optDef zβ rfl⟩
  refine ⟨⟨(true && !true), .no (d := true) rfl (fun v w h => h), fun h w => optUndef h, fun zβ za zw zc => ?_⟩, ?_⟩
  ·simp at zβ
  refine ⟨⟨(true && !true), .no (d := true) rfl (fun v w h => h), fun h w => optUndef h, fun zβ za zw zc => ?_⟩, ?_⟩
  ·simp at zβ
  refine ⟨⟨(true && !true), .no (d := true) rfl (fun v w h => h), fun h w => optUndef h, fun zβ za zw zc => ?_⟩, ?_⟩
  ·simp at zβ
  refine ⟨⟨(true && !true), .no (d := true) rfl (fun v w h => h), fun h w => optUndef h, fun zβ za zw zc => ?_⟩, ?_⟩
  ·simp at zβ
  refine ⟨⟨(true && !true), .no (d := true) rfl (fun v w h => h), fun h w => optUndef h, fun zβ za zw zc => ?_⟩, ?_⟩
  ·simp at zβ
  refine ⟨⟨(true && !true), .no (d := true) rfl (fun v w h => h), fun h w => optUndef h, fun zβ za zw zc => ?_⟩, ?_⟩
  ·simp at zβ
  refine ⟨⟨(true && !true), .no (d := true) rfl (fun v w h => h), fun h w => optUndef h, fun zβ za zw zc => ?_⟩, ?_⟩
  ·simp at zβ
  refine ⟨⟨(true && !true), .no (d := true) rfl (fun v w h => h), fun h w => optUndef h, fun zβ za zw zc => ?_⟩, ?_⟩
  ·simp at zβ
  refine ⟨⟨(true && !true), .no (d := true) rfl (fun v w h => h), fun h w => optUndef h, fun zβ za zw zc => ?_⟩, ?_⟩
  ·simp at zβ
  refine ⟨⟨((true && !true) && false), .yes (d := (true && !true)) rfl (fun v w h => h), fun h w => optUndef h, fun zβ za zw zc => ?_⟩, ?_⟩
  ·simp at zβ
  refine ⟨⟨((true && !true) && false), .yes (d := (true && !true)) rfl (fun v w h => h), fun h w => optUndef h, fun zβ za zw zc => ?_⟩, ?_⟩
  ·simp at zβ
  refine ⟨⟨((true && !true) && false), .yes (d := (true && !true)) rfl (fun v w h => h), fun h w => optUndef h, fun zβ za zw zc => ?_⟩, ?_⟩
  ·simp at zβ
  refine ⟨⟨((true && !true) && false), .yes (d := (true && !true)) rfl (fun v w h => h), fun h w => optUndef h, fun zβ za zw zc => ?_⟩, ?_⟩
  ·simp at zβ
  refine ⟨⟨((true && !true) && false), .yes (d := (true && !true)) rfl (fun v w h => h), fun h w => optUndef h, fun zβ za zw zc => ?_⟩, ?_⟩
  ·simp at zβ
  refine ⟨⟨(true && !true), .no (d := true) rfl (fun v w h => h), fun h w => optUndef h, fun zβ za zw zc => ?_⟩, ?_⟩
  ·simp at zβ
  refine ⟨⟨true, .none rfl, fun h w => optUndef h, fun zβ za zw zc => ?_⟩, ?_⟩
  ·exact wp_pickT rfl ((evt za 10).trans (optVal (zc.dep 2 10 (by kernel_rfl)) rfl rfl)) (zc.kn.ev rfl) ⟨_, rfl, Below.refl _ _, optDef zβ rfl⟩
  refine ⟨⟨true, .none rfl, fun h w => optUndef h, fun zβ za zw zc => ?_⟩, ?_⟩
  ·exact wp_assign rfl ((evt za 26).trans (optVal (zc.dep 18 26 (by kernel_rfl)) rfl rfl)) ⟨_, rfl, Below.refl _ _, optDef zβ rfl⟩
  exact trivial
 ·intro za w11 zh hb12 zu
  have zh := zh.cons (d := 7) (v := .bool true) (optVal (zu 19 7 (by kernel_rfl)) rfl rfl)
  clear zu
  refine WE.go zh ?_
  refine WE.next (WC.ret (WE.ret1 rfl rfl ?_))
  have hb13 : Below w.heap.size w w11 := (bstep hb5 hb12)
  exact ⟨_, rfl, rfl, hb13⟩
set_option maxRecDepth 100000 in
theorem askw_step (way g5 g7 g9 : Nat) (q0 q1 q2 q3 q4 q5 q6 q7 : Int) (p0 p1 p2 p3 p4 p5 p6 p7 : Int) (i : Nat) (hi8 : i < 8) (w : World) (h5 : Blk w g5 56 #[.func (.func (fnW way)) #[] #[]]) (h7 : Blk w g7 50 #[.int .i64 q0, .int .i64 q1, .int .i64 q2, .int .i64 q3, .int .i64 q4, .int .i64 q5, .int .i64 q6, .int .i64 q7]) (h9 : Blk w g9 75 #[.func (.func 41) #[] #[.pointer (some ⟨g5, 0, none⟩), .pointer (some ⟨g7, 0, none⟩), .pointer (some ⟨g9, 0, none⟩)]]) (ih : ∀ w, (Blk w g5 56 #[.func (.func (fnW way)) #[] #[]] ∧ Blk w g7 50 #[.int .i64 q0, .int .i64 q1, .int .i64 q2, .int .i64 q3, .int .i64 q4, .int .i64 q5, .int .i64 q6, .int .i64 q7] ∧ Blk w g9 75 #[.func (.func 41) #[] #[.pointer (some ⟨g5, 0, none⟩), .pointer (some ⟨g7, 0, none⟩), .pointer (some ⟨g9, 0, none⟩)]]) → Calls Try.prog 41 #[.agg #[.int .i64 p0, .int .i64 p1, .int .i64 p2, .int .i64 p3, .int .i64 p4, .int .i64 p5, .int .i64 p6, .int .i64 p7], .int .i64 (((i + 1 : Nat) : Int) : Int), .pointer (some ⟨g5, 0, none⟩), .pointer (some ⟨g7, 0, none⟩), .pointer (some ⟨g9, 0, none⟩)] w (Ret fun v' w' => v' = .bool (fitP way (List.drop (i + 1) [p0, p1, p2, p3, p4, p5, p6, p7]) (List.drop (i + 1) [q0, q1, q2, q3, q4, q5, q6, q7])) ∧ Below w.heap.size w w')) : Calls Try.prog 41 #[.agg #[.int .i64 p0, .int .i64 p1, .int .i64 p2, .int .i64 p3, .int .i64 p4, .int .i64 p5, .int .i64 p6, .int .i64 p7], .int .i64 (((i : Nat) : Int) : Int), .pointer (some ⟨g5, 0, none⟩), .pointer (some ⟨g7, 0, none⟩), .pointer (some ⟨g9, 0, none⟩)] w (Ret fun v' w' => v' = .bool (fitP way (List.drop (i) [p0, p1, p2, p3, p4, p5, p6, p7]) (List.drop (i) [q0, q1, q2, q3, q4, q5, q6, q7])) ∧ Below w.heap.size w w') := by
 skip
 refine Calls.walk (l := [.agg #[.int .i64 p0, .int .i64 p1, .int .i64 p2, .int .i64 p3, .int .i64 p4, .int .i64 p5, .int .i64 p6, .int .i64 p7], .int .i64 (((i : Nat) : Int)), .pointer (some ⟨g5, 0, none⟩), .pointer (some ⟨g7, 0, none⟩), .pointer (some ⟨g9, 0, none⟩)]) Try.func41 rfl (by kernel_rfl) ?_
 refine WC.sub (K' := [(0, .agg #[.int .i64 p0, .int .i64 p1, .int .i64 p2, .int .i64 p3, .int .i64 p4, .int .i64 p5, .int .i64 p6, .int .i64 p7]), (1, .int .i64 (((i : Nat) : Int))), (2, .pointer (some ⟨g5, 0, none⟩)), (3, .pointer (some ⟨g7, 0, none⟩)), (4, .pointer (some ⟨g9, 0, none⟩))]) ⟨rfl, rfl, rfl, rfl, rfl, trivial⟩ ?_
 refine WC.seq (WC.region ?_)
 refine WL.step (post := NewBlk w 50 #[.int .i64 p0, .int .i64 p1, .int .i64 p2, .int .i64 p3, .int .i64 p4, .int .i64 p5, .int .i64 p6, .int .i64 p7]) rfl rfl rfl (fun za zC zh zk => box_50 rfl (zh.ev rfl) (zk _ _ (newBlk _ _ _))) ?_
 rintro _ w1 ⟨g2, rfl, hg3, hB4, hb5, hz6⟩
 have hl7 : g5 < g2 := by have z1 := h5.lt; omega
 have hl8 : g7 < g2 := by have z1 := h7.lt; omega
 have hl9 : g9 < g2 := by have z1 := h9.lt; omega
 have hl10 : w.heap.size ≤ g2 := by omega
 refine WL.asg rfl rfl rfl rfl rfl (WL.nil (WE.next (WC.seq ?_)))
 have hB11 := h5.below hb5
 have hc12 := cell8 (l := [p0, p1, p2, p3, p4, p5, p6, p7]) hB4 hi8
 have hB13 := h7.below hb5
 have hc14 := cell8 (l := [q0, q1, q2, q3, q4, q5, q6, q7]) hB13 hi8
 have hB15 := h9.below hb5
 refine WC.opt [(true, .val (.int .i64 (((i : Nat) : Int)))), (true, .val (.bool false)), (true, .val (.bool false)), ((true && !false), .val (.func (.func (fnW way)) #[] #[])), ((true && !false), .val (.int .i64 (((i : Nat) : Int)))), ((true && !false), .val (.pointer (some ⟨g2, 0 + i, none⟩))), ((true && !false), .val (.int .i64 ((List.getD [p0, p1, p2, p3, p4, p5, p6, p7] i 0)))), ((true && !false), .val (.int .i64 (((i : Nat) : Int)))), ((true && !false), .val (.pointer (some ⟨g7, 0 + i, none⟩))), ((true && !false), .val (.int .i64 ((List.getD [q0, q1, q2, q3, q4, q5, q6, q7] i 0)))), ((true && !false), .val (.bool ((ltW way (List.getD [p0, p1, p2, p3, p4, p5, p6, p7] i 0) (List.getD [q0, q1, q2, q3, q4, q5, q6, q7] i 0))))), ((true && !false), .val (.bool ((ltW way (List.getD [p0, p1, p2, p3, p4, p5, p6, p7] i 0) (List.getD [q0, q1, q2, q3, q4, q5, q6, q7] i 0))))), (((true && !false) && (ltW way (List.getD [p0, p1, p2, p3, p4, p5, p6, p7] i 0) (List.getD [q0, q1, q2, q3, q4, q5, q6, q7] i 0))), .val (.func (.func 41) #[] #[.pointer (some ⟨g5, 0, none⟩), .pointer (some ⟨g7, 0, none⟩), .pointer (some ⟨g9, 0, none⟩)])), (((true && !false) && (ltW way (List.getD [p0, p1, p2, p3, p4, p5, p6, p7] i 0) (List.getD [q0, q1, q2, q3, q4, q5, q6, q7] i 0))), .val (.agg #[.int .i64 p0, .int .i64 p1, .int .i64 p2, .int .i64 p3, .int .i64 p4, .int .i64 p5, .int .i64 p6, .int .i64 p7])), (((true && !false) && (ltW way (List.getD [p0, p1, p2, p3, p4, p5, p6, p7] i 0) (List.getD [q0, q1, q2, q3, q4, q5, q6, q7] i 0))), .val (.int .i64 (((i : Nat) : Int)))), (((true && !false) && (ltW way (List.getD [p0, p1, p2, p3, p4, p5, p6, p7] i 0) (List.getD [q0, q1, q2, q3, q4, q5, q6, q7] i 0))), .val (.int .i64 ((((i + 1) : Nat) : Int)))), (((true && !false) && (ltW way (List.getD [p0, p1, p2, p3, p4, p5, p6, p7] i 0) (List.getD [q0, q1, q2, q3, q4, q5, q6, q7] i 0))), .val (.bool ((fitP way (List.drop (i + 1) [p0, p1, p2, p3, p4, p5, p6, p7]) (List.drop (i + 1) [q0, q1, q2, q3, q4, q5, q6, q7]))))), ((true && !false), .val (.bool (((ltW way (List.getD [p0, p1, p2, p3, p4, p5, p6, p7] i 0) (List.getD [q0, q1, q2, q3, q4, q5, q6, q7] i 0)) && (fitP way (List.drop (i + 1) [p0, p1, p2, p3, p4, p5, p6, p7]) (List.drop (i + 1) [q0, q1, q2, q3, q4, q5, q6, q7])))))), (true, .val (.bool (((ltW way (List.getD [p0, p1, p2, p3, p4, p5, p6, p7] i 0) (List.getD [q0, q1, q2, q3, q4, q5, q6, q7] i 0)) && (fitP way (List.drop (i + 1) [p0, p1, p2, p3, p4, p5, p6, p7]) (List.drop (i + 1) [q0, q1, q2, q3, q4, q5, q6, q7])))))), (true, .val (.bool (((ltW way (List.getD [p0, p1, p2, p3, p4, p5, p6, p7] i 0) (List.getD [q0, q1, q2, q3, q4, q5, q6, q7] i 0)) && (fitP way (List.drop (i + 1) [p0, p1, p2, p3, p4, p5, p6, p7]) (List.drop (i + 1) [q0, q1, q2, q3, q4, q5, q6, q7]))))))] [(0, .agg #[.int .i64 p0, .int .i64 p1, .int .i64 p2, .int .i64 p3, .int .i64 p4, .int .i64 p5, .int .i64 p6, .int .i64 p7]), (1, .int .i64 (((i : Nat) : Int))), (2, .pointer (some ⟨g5, 0, none⟩)), (3, .pointer (some ⟨g7, 0, none⟩)), (4, .pointer (some ⟨g9, 0, none⟩)), (5, .pointer (some ⟨g2, 0, none⟩))] ⟨rfl, rfl, rfl, rfl, rfl, rfl, trivial⟩ (by kernel_rfl) (by kernel_rfl) (by kernel_rfl) ?_ ?_
 ·refine ⟨⟨true, .none rfl, fun h w => optUndef h, fun zβ za zw zc => ?_⟩, ?_⟩
  ·exact wp_move rfl (zc.kn.ev rfl) ⟨_, rfl, Below.refl _ _, optDef zβ rfl⟩
  refine ⟨⟨true, .none rfl, fun h w => optUndef h, fun zβ za zw zc => ?_⟩, ?_⟩
  ·exact eql_3 rfl ((evt za 8).trans (optVal (zc.dep 0 8 (by kernel_rfl)) rfl rfl)) (zc.kn.ev rfl) (by rw [show ((((i : Nat) : Int) : Int) == (8 : Int)) = false from beq_eq_false_iff_ne.2 (by omega)]; exact ⟨_, rfl, Below.refl _ _, optDef zβ rfl⟩)
  refine ⟨⟨true, .none rfl, fun h w => optUndef h, fun zβ za zw zc => ?_⟩, ?_⟩
  ·exact wp_move rfl ((evt za 9).trans (optVal (zc.dep 1 9 (by kernel_rfl)) rfl rfl)) ⟨_, rfl, Below.refl _ _, optDef zβ rfl⟩
  refine ⟨⟨_, .no (d := true) rfl (fun v w h => h), fun h w => optUndef h, fun zβ za zw zc => ?_⟩, ?_⟩
  ·exact ld_56 rfl (zc.kn.ev rfl) (bkeeps zc.below _ _ ((hB11.cell 0).trans rfl)) ⟨_, rfl, Below.refl _ _, optDef zβ rfl⟩
  refine ⟨⟨_, .no (d := true) rfl (fun v w h => h), fun h w => optUndef h, fun zβ za zw zc => ?_⟩, ?_⟩
  ·exact wp_move rfl (zc.kn.ev rfl) ⟨_, rfl, Below.refl _ _, optDef zβ rfl⟩
  refine ⟨⟨_, .no (d := true) rfl (fun v w h => h), fun h w => optUndef h, fun zβ za zw zc => ?_⟩, ?_⟩
  ·exact ixa_50 (k := i) rfl (zc.kn.ev rfl) ((evt za 12).trans (optVal (zc.dep 4 12 (by kernel_rfl)) rfl rfl)) hi8 ⟨_, rfl, Below.refl _ _, optDef zβ rfl⟩
  refine ⟨⟨_, .no (d := true) rfl (fun v w h => h), fun h w => optUndef h, fun zβ za zw zc => ?_⟩, ?_⟩
  ·exact ld_3 rfl ((evt za 13).trans (optVal (zc.dep 5 13 (by kernel_rfl)) rfl rfl)) (bkeeps zc.below _ _ hc12) ⟨_, rfl, Below.refl _ _, optDef zβ rfl⟩
  refine ⟨⟨_, .no (d := true) rfl (fun v w h => h), fun h w => optUndef h, fun zβ za zw zc => ?_⟩, ?_⟩
  ·exact wp_move rfl (zc.kn.ev rfl) ⟨_, rfl, Below.refl _ _, optDef zβ rfl⟩
  refine ⟨⟨_, .no (d := true) rfl (fun v w h => h), fun h w => optUndef h, fun zβ za zw zc => ?_⟩, ?_⟩
  ·exact ixa_50 (k := i) rfl (zc.kn.ev rfl) ((evt za 15).trans (optVal (zc.dep 7 15 (by kernel_rfl)) rfl rfl)) hi8 ⟨_, rfl, Below.refl _ _, optDef zβ rfl⟩
  refine ⟨⟨_, .no (d := true) rfl (fun v w h => h), fun h w => optUndef h, fun zβ za zw zc => ?_⟩, ?_⟩
  ·exact ld_3 rfl ((evt za 16).trans (optVal (zc.dep 8 16 (by kernel_rfl)) rfl rfl)) (bkeeps zc.below _ _ hc14) ⟨_, rfl, Below.refl _ _, optDef zβ rfl⟩
  refine ⟨⟨_, .no (d := true) rfl (fun v w h => h), fun h w => optUndef h, fun zβ za zw zc => ?_⟩, ?_⟩
  ·exact wp_callv (callW way) rfl ((evt za 11).trans (optVal (zc.dep 3 11 (by kernel_rfl)) rfl rfl)) (hv2 ((evt za 14).trans (optVal (zc.dep 6 14 (by kernel_rfl)) rfl rfl)) ((evt za 17).trans (optVal (zc.dep 9 17 (by kernel_rfl)) rfl rfl))) (fits_any way _ _ _) (fun v w' h => ⟨v, rfl, h.2, optDef zβ h.1⟩)
  refine ⟨⟨_, .no (d := true) rfl (fun v w h => h), fun h w => optUndef h, fun zβ za zw zc => ?_⟩, ?_⟩
  ·exact wp_move rfl ((evt za 18).trans (optVal (zc.dep 10 18 (by kernel_rfl)) rfl rfl)) ⟨_, rfl, Below.refl _ _, optDef zβ rfl⟩
  refine ⟨⟨_, .yes (d := (true && !false)) rfl (fun v w h => h), fun h w => optUndef h, fun zβ za zw zc => ?_⟩, ?_⟩
  ·exact ld_75 rfl (zc.kn.ev rfl) (bkeeps zc.below _ _ ((hB15.cell 0).trans rfl)) ⟨_, rfl, Below.refl _ _, optDef zβ rfl⟩
  refine ⟨⟨_, .yes (d := (true && !false)) rfl (fun v w h => h), fun h w => optUndef h, fun zβ za zw zc => ?_⟩, ?_⟩
  ·exact ld_50 rfl (zc.kn.ev rfl) (bkeeps zc.below _ _ ((hB4.cell 0).trans rfl)) (bkeeps zc.below _ _ ((hB4.cell 1).trans rfl)) (bkeeps zc.below _ _ ((hB4.cell 2).trans rfl)) (bkeeps zc.below _ _ ((hB4.cell 3).trans rfl)) (bkeeps zc.below _ _ ((hB4.cell 4).trans rfl)) (bkeeps zc.below _ _ ((hB4.cell 5).trans rfl)) (bkeeps zc.below _ _ ((hB4.cell 6).trans rfl)) (bkeeps zc.below _ _ ((hB4.cell 7).trans rfl)) ⟨_, rfl, Below.refl _ _, optDef zβ rfl⟩
  refine ⟨⟨_, .yes (d := (true && !false)) rfl (fun v w h => h), fun h w => optUndef h, fun zβ za zw zc => ?_⟩, ?_⟩
  ·exact wp_move rfl (zc.kn.ev rfl) ⟨_, rfl, Below.refl _ _, optDef zβ rfl⟩
  refine ⟨⟨_, .yes (d := (true && !false)) rfl (fun v w h => h), fun h w => optUndef h, fun zβ za zw zc => ?_⟩, ?_⟩
  ·exact addb_3 rfl ((evt za 22).trans (optVal (zc.dep 14 22 (by kernel_rfl)) rfl zβ)) (zc.kn.ev rfl) (wrap_eq (by omega) (by omega) (by omega)) ⟨_, rfl, Below.refl _ _, optDef zβ rfl⟩
  refine ⟨⟨_, .yes (d := (true && !false)) rfl (fun v w h => h), fun h w => optUndef h, fun zβ za zw zc => ?_⟩, ?_⟩
  ·exact wp_callv (by kernel_rfl) rfl ((evt za 20).trans (optVal (zc.dep 12 20 (by kernel_rfl)) rfl zβ)) (hv2 ((evt za 21).trans (optVal (zc.dep 13 21 (by kernel_rfl)) rfl zβ)) ((evt za 23).trans (optVal (zc.dep 15 23 (by kernel_rfl)) rfl zβ))) (ih _ ⟨Blk.below h5 (bstep hb5 zc.below), Blk.below h7 (bstep hb5 zc.below), Blk.below h9 (bstep hb5 zc.below)⟩) (fun v w' h => ⟨v, rfl, h.2, optDef zβ h.1⟩)
  refine ⟨⟨_, .no (d := true) rfl (fun v w h => h), fun h w => optUndef h, fun zβ za zw zc => ?_⟩, ?_⟩
  ·exact wp_and rfl ((evt za 19).trans (optVal (zc.dep 11 19 (by kernel_rfl)) rfl rfl)) (fun hp => ((evt za 24).trans (optVal (zc.dep 16 24 (by kernel_rfl)) rfl (bMk zβ hp)))) ⟨_, rfl, Below.refl _ _, optDef zβ rfl⟩
  refine ⟨⟨true, .none rfl, fun h w => optUndef h, fun zβ za zw zc => ?_⟩, ?_⟩
  ·exact wp_pickF rfl ((evt za 10).trans (optVal (zc.dep 2 10 (by kernel_rfl)) rfl rfl)) ((evt za 25).trans (optVal (zc.dep 17 25 (by kernel_rfl)) rfl rfl)) ⟨_, rfl, Below.refl _ _, optDef zβ rfl⟩
  refine ⟨⟨true, .none rfl, fun h w => optUndef h, fun zβ za zw zc => ?_⟩, ?_⟩
  ·exact wp_assign rfl ((evt za 26).trans (optVal (zc.dep 18 26 (by kernel_rfl)) rfl rfl)) ⟨_, rfl, Below.refl _ _, optDef zβ rfl⟩
  exact trivial
 ·intro za w17 zh hb18 zu
  have zh := zh.cons (d := 7) (v := .bool (((ltW way (List.getD [p0, p1, p2, p3, p4, p5, p6, p7] i 0) (List.getD [q0, q1, q2, q3, q4, q5, q6, q7] i 0)) && (fitP way (List.drop (i + 1) [p0, p1, p2, p3, p4, p5, p6, p7]) (List.drop (i + 1) [q0, q1, q2, q3, q4, q5, q6, q7]))))) (optVal (zu 19 7 (by kernel_rfl)) rfl rfl)
  clear zu
  refine WE.go zh ?_
  refine WE.next (WC.ret (WE.ret1 rfl rfl ?_))
  have hb19 : Below w.heap.size w w17 := (bstep hb5 hb18)
  refine ⟨_, rfl, congrArg Value.bool ?_, hb19⟩
  rw [fitP_at (p := [p0, p1, p2, p3, p4, p5, p6, p7]) (q := [q0, q1, q2, q3, q4, q5, q6, q7]) hi8 hi8]
theorem askw_any (way g5 g7 g9 : Nat) (q0 q1 q2 q3 q4 q5 q6 q7 : Int) (p0 p1 p2 p3 p4 p5 p6 p7 : Int) : ∀ (n i : Nat) (w : World), i + n = 8 → ∀ (h5 : Blk w g5 56 #[.func (.func (fnW way)) #[] #[]]) (h7 : Blk w g7 50 #[.int .i64 q0, .int .i64 q1, .int .i64 q2, .int .i64 q3, .int .i64 q4, .int .i64 q5, .int .i64 q6, .int .i64 q7]) (h9 : Blk w g9 75 #[.func (.func 41) #[] #[.pointer (some ⟨g5, 0, none⟩), .pointer (some ⟨g7, 0, none⟩), .pointer (some ⟨g9, 0, none⟩)]]), Calls Try.prog 41 #[.agg #[.int .i64 p0, .int .i64 p1, .int .i64 p2, .int .i64 p3, .int .i64 p4, .int .i64 p5, .int .i64 p6, .int .i64 p7], .int .i64 (((i : Nat) : Int) : Int), .pointer (some ⟨g5, 0, none⟩), .pointer (some ⟨g7, 0, none⟩), .pointer (some ⟨g9, 0, none⟩)] w (Ret fun v' w' => v' = .bool (fitP way (List.drop (i) [p0, p1, p2, p3, p4, p5, p6, p7]) (List.drop (i) [q0, q1, q2, q3, q4, q5, q6, q7])) ∧ Below w.heap.size w w') := by
 intro n
 induction n with
 | zero =>
  intro i w hi h5 h7 h9
  obtain rfl : i = 8 := by omega
  exact askw_end way g5 g7 g9 q0 q1 q2 q3 q4 q5 q6 q7 p0 p1 p2 p3 p4 p5 p6 p7 w h5 h7 h9
 | succ n ih =>
  intro i w hi h5 h7 h9
  exact askw_step way g5 g7 g9 q0 q1 q2 q3 q4 q5 q6 q7 p0 p1 p2 p3 p4 p5 p6 p7 i (by omega) w h5 h7 h9 (fun w q => ih (i + 1) w (by omega) q.1 q.2.1 q.2.2)
end Go.Proofs.Ytibncmnmjhimeaa

namespace Go.Proofs.Ytibncmnmjhimeaa
open Go.RowKit Go
set_option linter.unusedVariables false
set_option linter.unusedSimpArgs false
set_option maxRecDepth 100000 in
theorem rise_any {S : Nat → Prop} {ra : Option Addr} {rc n : Nat} {L : List Int} (w : World) (hR : Own w S 3 1 ra rc n (L.map (Value.int .i64))) (hz : n ≤ 4294967296) : Calls Try.prog 42 #[.slice ra n rc] w (Ret fun v' w' => ∃ (l : List Int) (a : Option Addr) (c : Nat), v' = .slice a l.length c ∧ l.length ≤ c ∧ c ≤ maxLen ∧ InRow eltI S w' l a ∧ ((∀ x, x ∈ l ↔ x ∈ L) ∧ RiseP l) ∧ Chg S w w') := by
 skip
 refine Calls.walk (l := [.slice ra n rc]) Try.func42 rfl (by kernel_rfl) ?_
 refine WC.sub (K' := [(0, .slice ra n rc)]) ⟨rfl, trivial⟩ ?_
 refine WC.seq (WC.region (WL.asg rfl rfl rfl rfl rfl (WL.nil (WE.next (WC.seq (WC.region (WL.mv rfl rfl rfl rfl rfl ?_)))))))
 refine WL.call rfl rfl rfl (fun za zh zC => wp_call (by kernel_rfl) rfl (hv1 (zh.ev rfl))) (sort_own hR hz) ?_
 rintro _ w1 ⟨L2, rfl, ⟨hm2, hp2⟩, hR2, hcs⟩
 refine WL.nil (WE.next (WC.seq (WC.region (WL.mv rfl rfl rfl rfl rfl ?_))))
 refine WL.call rfl rfl rfl (fun za zh zC => wp_call (by kernel_rfl) rfl (hv1 (zh.ev rfl))) (compact_own hR2 hz hp2) ?_
 rintro _ w2 ⟨l3, a3, c3, rfl, hl3, hc3, hr3, ⟨hm3, hp3⟩, hcs3⟩
 refine WL.asg rfl rfl rfl rfl rfl (WL.nil (WE.next (WC.ret (WE.ret1 rfl rfl ?_))))
 exact ⟨_, rfl, l3, a3, c3, rfl, hl3, hc3, hr3, ⟨fun x => (hm3 x).trans (hm2 x), hp3⟩, Chg.trans hcs hcs3⟩
/-- A bucket's numbers. -/
abbrev bagI (B : List TI) (k : List Int) : List Int := (bag B k).map (·.2)
theorem ext1_0 {P : Program} {w : World} {a : Act} {K : Act → World → Prop} {Q : Exit → Act → World → Prop} {o : Oper} {x : Operand} {v0 : Value} (ho : o.op = .extract x 0) (hx : a.eval x = .tuple #[v0]) (hK : K (a.put o.dst (v0)) w) : o.wp P a w K Q := by
 unfold Oper.wp execOp
 simp only [ho, hx]
 go_simp
 exact hK
theorem take_int {l : List Int} {k : Nat} (h : k < l.length) : l.take (k + 1) = l.take k ++ [l.getD k 0] := by
 rw [List.take_add_one, List.getElem?_eq_getElem h, List.getD_eq_getElem?_getD, List.getElem?_eq_getElem h]; rfl
/-- What is told lies in rows of its own. -/
def Told (w0 w : World) (l : List Int) (v : Value) : Prop := ∃ a c, v = .slice a l.length c ∧ l.length ≤ c ∧ c ≤ maxLen ∧ InRow eltI (fun b => w0.heap.size ≤ b) w l a
set_option maxRecDepth 100000 in
set_option maxHeartbeats 1000000 in
theorem ask_any (g : Nat) (Z : Nat → Prop) (B : List TI) (w : World) (way : Nat) (t : T) (v : Value) (hBl : B.length ≤ 1000000) (ht : IsT w t v) (hK : FpIs w g Z B) : Calls Try.prog 27 #[.pointer (some ⟨g, 0, none⟩), v, .func (.func (fnW way)) #[] #[]] w (Ret fun v' w' => Told w w' (askP B way (prt t)) v' ∧ Below w.heap.size w w') := by
 have hvt := ht
 obtain ⟨_, ta, tc, rfl, _, _, _⟩ := ht.form
 have hK0 := hK
 obtain ⟨m, es, clock, KL, S9, hO, hZ, hZl⟩ := hK0
 have hgl := hO.blk.lt
 have hml := hO.obj.lt
 refine Calls.walk (l := [.pointer (some ⟨g, 0, none⟩), .agg #[.int .i64 t.f, .slice ta t.args.length tc], .func (.func (fnW way)) #[] #[]]) Try.func27 rfl (by kernel_rfl) ?_
 refine WC.sub (K' := [(0, .pointer (some ⟨g, 0, none⟩)), (1, .agg #[.int .i64 t.f, .slice ta t.args.length tc]), (2, .func (.func (fnW way)) #[] #[])]) ⟨rfl, rfl, rfl, trivial⟩ ?_
 refine WC.seq (WC.region ?_)
 refine WL.step (post := NewBlk w 24 #[.int .i64 t.f, .slice ta t.args.length tc]) rfl rfl rfl (fun za zC zh zk => box_24 rfl (zh.ev rfl) (zk _ _ (newBlk _ _ _))) ?_
 rintro _ w1 ⟨g2, rfl, hg3, hB4, hb5, hz6⟩
 have hl7 : w.heap.size ≤ g2 := by omega
 refine WL.step (post := NewBlk w1 56 #[.func (.func (fnW way)) #[] #[]]) rfl rfl rfl (fun za zC zh zk => box_56 rfl (zh.ev rfl) (zk _ _ (newBlk _ _ _))) ?_
 rintro _ w8 ⟨g9, rfl, hg10, hB11, hb12, hz13⟩
 have hl14 : g2 < g9 := by have z1 := hB4.lt; omega
 have hl15 : w.heap.size ≤ g9 := by have z2 := (hb5).size; omega
 refine WL.asg rfl rfl rfl rfl rfl (WL.nil (WE.next (WC.seq (WC.seq (WC.region (WL.mv rfl rfl rfl rfl rfl ?_))))))
 have hb16 : Below w.heap.size w w8 := (bstep hb5 hb12)
 refine WL.call rfl rfl rfl (fun za zh zC => wp_call (by kernel_rfl) rfl (hv1 (zh.ev rfl))) (fok_any g Z B _ (FpIs.below hK hb16)) ?_
 rintro _ w18 ⟨rfl, hq17⟩
 refine WL.val (.bool false) rfl rfl rfl (fun za zC zh zk => wp_not rfl (zh.ev rfl) zk) ?_
 refine WL.nil (WE.next ?_)
 refine WC.condF rfl rfl ?_
 refine WC.skip (WE.next (WC.seq (WC.region ?_)))
 have hb20 : Below w1.heap.size w1 w18 := (bstep hb12 hq17)
 have hB19 := hB4.below hb20
 refine WL.val _ rfl rfl rfl (fun za zC zh zk => ld_24 rfl (zh.ev rfl) ((hB19.cell 0).trans rfl) ((hB19.cell 1).trans rfl) zk) ?_
 have hb21 : Below w.heap.size w w18 := (bstep hb5 hb20)
 refine WL.call rfl rfl rfl (fun za zh zC => wp_call (by kernel_rfl) rfl (hv1 (zh.ev rfl))) (of_any t _ _ (IsT.below hb21 hvt)) ?_
 rintro _ w22 ⟨rfl, hbo⟩
 refine WL.step (post := NewBlk w22 50 #[.int .i64 0, .int .i64 0, .int .i64 0, .int .i64 0, .int .i64 0, .int .i64 0, .int .i64 0, .int .i64 0]) rfl rfl rfl (fun za zC zh zk => alloc_50 rfl (zk _ _ (newBlk _ _ _))) ?_
 rintro _ w23 ⟨g24, rfl, hg25, hB26, hb27, hz28⟩
 have hl29 : g2 < g24 := by have z1 := hB19.lt; have z2 := (hbo).size; omega
 have hb30 : Below w8.heap.size w8 w22 := (bstep hq17 hbo)
 have hl31 : g9 < g24 := by have z1 := hB11.lt; have z2 := (hb30).size; omega
 have hb32 : Below w.heap.size w w22 := (bstep hb16 hb30)
 have hl33 : w.heap.size ≤ g24 := by have z2 := (hb32).size; omega
 refine WL.step (post := fun _ w' => Upd g24 w23 w' ∧ Blk w' g24 50 #[.int .i64 ((ltr t [])), .int .i64 ((ltr t [0])), .int .i64 ((ltr t [1])), .int .i64 ((ltr t [2])), .int .i64 ((ltr t [0, 0])), .int .i64 ((ltr t [0, 1])), .int .i64 ((ltr t [1, 0])), .int .i64 ((ltr t [1, 1]))]) rfl rfl rfl (fun za zC zh zk => st_50 rfl (zh.ev rfl) (zh.ev rfl) rfl rfl rfl rfl rfl rfl rfl rfl hB26 (by first | decide | simp) (fun v => by have zb0 : Blk _ g24 50 #[.int .i64 ((ltr t [])), .int .i64 0, .int .i64 0, .int .i64 0, .int .i64 0, .int .i64 0, .int .i64 0, .int .i64 0] := hB26.set_ 0 _; have zb1 : Blk _ g24 50 #[.int .i64 ((ltr t [])), .int .i64 ((ltr t [0])), .int .i64 0, .int .i64 0, .int .i64 0, .int .i64 0, .int .i64 0, .int .i64 0] := zb0.set_ 1 _; have zb2 : Blk _ g24 50 #[.int .i64 ((ltr t [])), .int .i64 ((ltr t [0])), .int .i64 ((ltr t [1])), .int .i64 0, .int .i64 0, .int .i64 0, .int .i64 0, .int .i64 0] := zb1.set_ 2 _; have zb3 : Blk _ g24 50 #[.int .i64 ((ltr t [])), .int .i64 ((ltr t [0])), .int .i64 ((ltr t [1])), .int .i64 ((ltr t [2])), .int .i64 0, .int .i64 0, .int .i64 0, .int .i64 0] := zb2.set_ 3 _; have zb4 : Blk _ g24 50 #[.int .i64 ((ltr t [])), .int .i64 ((ltr t [0])), .int .i64 ((ltr t [1])), .int .i64 ((ltr t [2])), .int .i64 ((ltr t [0, 0])), .int .i64 0, .int .i64 0, .int .i64 0] := zb3.set_ 4 _; have zb5 : Blk _ g24 50 #[.int .i64 ((ltr t [])), .int .i64 ((ltr t [0])), .int .i64 ((ltr t [1])), .int .i64 ((ltr t [2])), .int .i64 ((ltr t [0, 0])), .int .i64 ((ltr t [0, 1])), .int .i64 0, .int .i64 0] := zb4.set_ 5 _; have zb6 : Blk _ g24 50 #[.int .i64 ((ltr t [])), .int .i64 ((ltr t [0])), .int .i64 ((ltr t [1])), .int .i64 ((ltr t [2])), .int .i64 ((ltr t [0, 0])), .int .i64 ((ltr t [0, 1])), .int .i64 ((ltr t [1, 0])), .int .i64 0] := zb5.set_ 6 _; have zb7 : Blk _ g24 50 #[.int .i64 ((ltr t [])), .int .i64 ((ltr t [0])), .int .i64 ((ltr t [1])), .int .i64 ((ltr t [2])), .int .i64 ((ltr t [0, 0])), .int .i64 ((ltr t [0, 1])), .int .i64 ((ltr t [1, 0])), .int .i64 ((ltr t [1, 1]))] := zb6.set_ 7 _; exact zk v _ ⟨(((((((Upd.at_ _ _ _ _).trans (Upd.at_ _ _ _ _)).trans (Upd.at_ _ _ _ _)).trans (Upd.at_ _ _ _ _)).trans (Upd.at_ _ _ _ _)).trans (Upd.at_ _ _ _ _)).trans (Upd.at_ _ _ _ _)).trans (Upd.at_ _ _ _ _), zb7⟩)) ?_
 rintro v37 w34 ⟨hu35, hB36⟩
 have hb38 : Below w.heap.size w w23 := (bstep hb32 hb27)
 have hb39 := upd_below hb38 hu35 (by omega)
 have hb41 : Below w18.heap.size w18 w23 := (bstep hbo hb27)
 have hB40 := hB19.below hb41
 have hB42 := upd_blk hB40 hu35 (by omega)
 have hb44 : Below w8.heap.size w8 w23 := (bstep hq17 hb41)
 have hB43 := hB11.below hb44
 have hB45 := upd_blk hB43 hu35 (by omega)
 refine WL.nil (WE.next (WC.seq (WC.region (WL.asg rfl rfl rfl rfl rfl (WL.nil (WE.next (WC.seq (WC.region ?_))))))))
 refine WL.step (post := NewBlk w34 75 #[.nilFunc]) rfl rfl rfl (fun za zC zh zk => alloc_75 rfl (zk _ _ (newBlk _ _ _))) ?_
 rintro _ w46 ⟨g47, rfl, hg48, hB49, hb50, hz51⟩
 have hl52 : g2 < g47 := by have z1 := hB42.lt; omega
 have hl53 : g9 < g47 := by have z1 := hB45.lt; omega
 have hl54 : g24 < g47 := by have z1 := hB36.lt; omega
 have hl55 : w.heap.size ≤ g47 := by have z2 := (hb39).size; omega
 refine WL.nil (WE.next (WC.seq (WC.region ?_)))
 refine WL.val (.func (Fn.func 41) #[] #[.pointer (some ⟨g9, 0, none⟩), .pointer (some ⟨g24, 0, none⟩), .pointer (some ⟨g47, 0, none⟩)]) rfl rfl rfl (fun za zC zh zk => mkfn rfl (hv0) (hv3 (zh.ev rfl) (zh.ev rfl) (zh.ev rfl)) zk) ?_
 refine WL.step (post := fun _ w' => Upd g47 w46 w' ∧ Blk w' g47 75 #[.func (Fn.func 41) #[] #[.pointer (some ⟨g9, 0, none⟩), .pointer (some ⟨g24, 0, none⟩), .pointer (some ⟨g47, 0, none⟩)]]) rfl rfl rfl (fun za zC zh zk => st_75 rfl (zh.ev rfl) (zh.ev rfl) hB49 (by first | decide | simp) (fun v => zk v _ ⟨Upd.at_ _ _ _ _, hB49.set_ 0 _⟩)) ?_
 rintro v59 w56 ⟨hu57, hB58⟩
 have hb60 : Below w.heap.size w w46 := (bstep hb39 hb50)
 have hb61 := upd_below hb60 hu57 (by omega)
 have hB62 := hB42.below hb50
 have hB63 := upd_blk hB62 hu57 (by omega)
 have hB64 := hB45.below hb50
 have hB65 := upd_blk hB64 hu57 (by omega)
 have hB66 := hB36.below hb50
 have hB67 := upd_blk hB66 hu57 (by omega)
 refine WL.nil (WE.next (WC.seq (WC.seq (WC.region (WL.mv rfl rfl rfl rfl rfl ?_)))))
 refine WL.val _ rfl rfl rfl (fun za zC zh zk => nilCheck_ rfl (zh.ev rfl) zk) ?_
 refine WL.val _ rfl rfl rfl (fun za zC zh zk => fld_48_0 rfl (zh.ev rfl) zk) ?_
 have hc68 := bkeeps hb61 _ _ hO.c0
 refine WL.val _ rfl rfl rfl (fun za zC zh zk => ld_46 rfl (zh.ev rfl) hc68 zk) ?_
 refine WL.step (post := fun v w' => NewIt w56 m clock v w') rfl rfl rfl (fun za zC zh zk => wp_range_im Try.underlying46 (hO.obj.below hb61) rfl (zh.ev rfl) (fun v w' h => zk v w' h)) ?_
 rintro _ w69 ⟨g70, rfl, hg71, hI72, hb73, hs74⟩
 have hl75 : g2 < g70 := by have z1 := hB63.lt; omega
 have hl76 : g9 < g70 := by have z1 := hB65.lt; omega
 have hl77 : g24 < g70 := by have z1 := hB67.lt; omega
 have hl78 : g47 < g70 := by have z1 := hB58.lt; omega
 have hl79 : w.heap.size ≤ g70 := by have z2 := (hb61).size; omega
 refine WL.nil (WE.next (WC.block ?_))
 have hl80 : g2 < w69.heap.size := by have z1 := hB63.lt; have z2 := (hb73).size; omega
 have hl81 : g9 < w69.heap.size := by have z1 := hB65.lt; have z2 := (hb73).size; omega
 have hl82 : g24 < w69.heap.size := by have z1 := hB67.lt; have z2 := (hb73).size; omega
 have hl83 : g47 < w69.heap.size := by have z1 := hB58.lt; have z2 := (hb73).size; omega
 have hl84 : g70 < w69.heap.size := by have z1 := hI72.lt; omega
 have hb86 : Below w.heap.size w w69 := (bstep hb61 hb73)
 have hl85 : w.heap.size ≤ w69.heap.size := (hb86).size
 have hR87 : RowE eltI w69 w69.heap.size 3 none 0 0 [] := RowE.nil
 refine WC.loop (X := FX) (fun x => x.rest.length) (fun x => [(0, .pointer (some ⟨g, 0, none⟩)), (1, .agg #[.int .i64 t.f, .slice ta t.args.length tc]), (2, .func (.func (fnW way)) #[] #[]), (4, .pointer (some ⟨g2, 0, none⟩)), (5, .pointer (some ⟨g9, 0, none⟩)), (6, .slice none 0 0), (7, .pointer (some ⟨g24, 0, none⟩)), (8, .slice x.ra x.n x.rc), (9, .pointer (some ⟨g47, 0, none⟩)), (16, .bool false), (24, .pointer (some ⟨g70, 0, none⟩))]) (fun x w88 => w69.heap.size ≤ (w88).heap.size ∧ ItG encP es (KL.map bkV) x.seen x.done x.rest ∧ Below w.heap.size w w88 ∧ Blk w88 g2 24 #[.int .i64 t.f, .slice ta t.args.length tc] ∧ Blk w88 g9 56 #[.func (.func (fnW way)) #[] #[]] ∧ Blk w88 g24 50 #[.int .i64 ((ltr t [])), .int .i64 ((ltr t [0])), .int .i64 ((ltr t [1])), .int .i64 ((ltr t [2])), .int .i64 ((ltr t [0, 0])), .int .i64 ((ltr t [0, 1])), .int .i64 ((ltr t [1, 0])), .int .i64 ((ltr t [1, 1]))] ∧ Blk w88 g47 75 #[.func (Fn.func 41) #[] #[.pointer (some ⟨g9, 0, none⟩), .pointer (some ⟨g24, 0, none⟩), .pointer (some ⟨g47, 0, none⟩)]] ∧ ObjAt (w88) g70 (.mapIter (some m) clock x.seen clock) ∧ RowE eltI (w88) w69.heap.size 3 x.ra x.rc x.n ((askOf B way (prt t) x.done))) (⟨[], KL.map bkV, #[], none, 0, 0⟩) ⟨rfl, rfl, rfl, rfl, rfl, rfl, rfl, rfl, rfl, rfl, rfl, trivial⟩ ?_ ?_
 ·have hB89 := hB63.below hb73
  have hB90 := hB65.below hb73
  have hB91 := hB67.below hb73
  have hB92 := hB58.below hb73
  exact ⟨Nat.le_refl _, ItG.start hO.ent, hb86, hB89, hB90, hB91, hB92, hI72, hR87⟩
 ·rintro x w88 ⟨hBw, hIt, hb93, hB94, hB95, hB96, hB97, ho98, ho99⟩
  refine WC.seq (WC.region ?_)
  refine WL.step (post := fun v w' => (v = .tuple #[.bool false] ∧ w88 = w' ∧ x.rest = []) ∨ ∃ (y : List Int × Value) (rest2 : List (List Int × Value)) (seen2 : Array Nat), v = .tuple #[.bool true, encP y.1, y.2] ∧ x.rest.Perm (y :: rest2) ∧ rest2.length < x.rest.length ∧ ItG encP es (KL.map bkV) seen2 (x.done ++ [y]) rest2 ∧ CurG encP es seen2 y ∧ ObjAt w' g70 (.mapIter (some m) clock seen2 clock) ∧ Upd g70 w88 w') rfl rfl rfl (fun za zC zh zk => wp_next_gm (hO.obj.below hb93) ho98 hO.ent hIt rfl (zh.ev rfl) (fun h => zk _ _ (.inl ⟨rfl, rfl, h⟩)) (fun y r2 s2 w' h1 h2 h3 h4 h5 h6 => zk _ _ (.inr ⟨y, r2, s2, rfl, h1, h2, h3, h4, h5, h6⟩))) ?_
  rintro v w100 (⟨rfl, rfl, hre⟩ | ⟨y, rest2, seen2, rfl, hrp, hrl, hIt2, hcu, hI102, hu101⟩)
  ·refine WL.val (.bool false) rfl rfl rfl (fun za zC zh zk => ext1_0 rfl (zh.ev rfl) zk) ?_
   refine WL.nil (WE.next (WC.seq ?_))
   refine WC.condF rfl rfl ?_
   refine WC.exit (WE.thenExit (WE.thenExit (WE.blockIs rfl (WE.next (WC.seq (WC.region (WL.mv rfl rfl rfl rfl rfl ?_)))))))
   rw [hre] at hIt
   have hnB : x.n ≤ B.length := by have z := (ho99).len; have z2 := hIt.total (B := B) (way := way) (q := (prt t)) hO.nd; omega
   have hWr : w.heap.size ≤ w69.heap.size := by omega
   refine WL.call rfl rfl rfl (fun za zh zC => wp_call (by kernel_rfl) rfl (hv1 (zh.ev rfl))) (rise_any _ ho99.own (by omega)) ?_
   rintro _ w103 ⟨ls, la, lc, rfl, hll, hlc, hrs, ⟨hms, hps⟩, hcs⟩
   refine WL.asg rfl rfl rfl rfl rfl (WL.nil (WE.next (WC.ret (WE.ret1 rfl rfl ?_))))
   have he9 := askOf_done hO hIt hps hms
   subst he9
   exact ⟨_, rfl, ⟨_, _, rfl, hll, hlc, hrs.mono (by decide) (fun b q _ => by have q2 : w69.heap.size ≤ b := q; omega)⟩, (chg_below hb93 hcs (fun b hb q => by have q2 : w69.heap.size ≤ b := q; omega))⟩
  ·obtain ⟨b9, hb9, rfl⟩ := hIt.memL hrp
   obtain ⟨p0, p1, p2, p3, p4, p5, p6, p7, hk8⟩ := len8 (hO.ent.ok _ (List.mem_map_of_mem hb9))
   have hk9 : b9.key = [p0, p1, p2, p3, p4, p5, p6, p7] := hk8
   have hy1 : encP (bkV b9).1 = .agg #[.int .i64 p0, .int .i64 p1, .int .i64 p2, .int .i64 p3, .int .i64 p4, .int .i64 p5, .int .i64 p6, .int .i64 p7] := by show encP b9.key = _; rw [hk9]; rfl
   have hy2 : (bkV b9).2 = .slice b9.a b9.rows.length b9.c := rfl
   have hrm := hIt.room (B := B) (way := way) (q := (prt t)) hO.nd hrp
   have hrm : (askOf B way (prt t) x.done).length + (bag B b9.key).length ≤ B.length := hrm
   have hbr := (hO.bags b9 hb9).1
   have hbl9 : b9.rows.length = (bag B b9.key).length := by rw [hbr]
   rw [hy1, hy2]
   have hR104 : RowE eltI w100 w69.heap.size 3 x.ra x.rc x.n ((askOf B way (prt t) x.done)) := ho99.upd hu101 (by omega)
   have hb105 := upd_below hb93 hu101 (by omega)
   have hB106 := upd_blk hB94 hu101 (by omega)
   have hB107 := upd_blk hB95 hu101 (by omega)
   have hB108 := upd_blk hB96 hu101 (by omega)
   have hB109 := upd_blk hB97 hu101 (by omega)
   refine WL.val (.bool true) rfl rfl rfl (fun za zC zh zk => ext3_0 rfl (zh.ev rfl) zk) ?_
   refine WL.nil (WE.next (WC.seq ?_))
   refine WC.condT rfl rfl ?_
   refine WC.skip (WE.next (WC.block (WC.seq (WC.region ?_))))
   refine WL.val (.tuple #[.agg #[.int .i64 p0, .int .i64 p1, .int .i64 p2, .int .i64 p3, .int .i64 p4, .int .i64 p5, .int .i64 p6, .int .i64 p7], .slice b9.a b9.rows.length b9.c]) rfl rfl rfl (fun za zC zh zk => wp_entry_gm (hO.obj.below hb105) hI102 hO.ent hcu rfl (zh.ev rfl) (by rw [hy1, hy2]; exact zk)) ?_
   refine WL.val (.agg #[.int .i64 p0, .int .i64 p1, .int .i64 p2, .int .i64 p3, .int .i64 p4, .int .i64 p5, .int .i64 p6, .int .i64 p7]) rfl rfl rfl (fun za zC zh zk => ext2_0 rfl (zh.ev rfl) zk) ?_
   refine WL.val (.slice b9.a b9.rows.length b9.c) rfl rfl rfl (fun za zC zh zk => ext2_1 rfl (zh.ev rfl) zk) ?_
   refine WL.step (post := NewBlk w100 50 #[.int .i64 0, .int .i64 0, .int .i64 0, .int .i64 0, .int .i64 0, .int .i64 0, .int .i64 0, .int .i64 0]) rfl rfl rfl (fun za zC zh zk => alloc_50 rfl (zk _ _ (newBlk _ _ _))) ?_
   rintro _ w110 ⟨g111, rfl, hg112, hB113, hb114, hz115⟩
   have hl116 : g2 < g111 := by have z1 := hB106.lt; omega
   have hl117 : g9 < g111 := by have z1 := hB107.lt; omega
   have hl118 : g24 < g111 := by have z1 := hB108.lt; omega
   have hl119 : g47 < g111 := by have z1 := hB109.lt; omega
   have hl120 : g70 < g111 := by have z1 := hI102.lt; omega
   have hl121 : w.heap.size ≤ g111 := by have z2 := (hb105).size; omega
   have hl122 : w100.heap.size ≤ g111 := by omega
   refine WL.step (post := fun _ w' => Upd g111 w110 w' ∧ Blk w' g111 50 #[.int .i64 p0, .int .i64 p1, .int .i64 p2, .int .i64 p3, .int .i64 p4, .int .i64 p5, .int .i64 p6, .int .i64 p7]) rfl rfl rfl (fun za zC zh zk => st_50 rfl (zh.ev rfl) (zh.ev rfl) rfl rfl rfl rfl rfl rfl rfl rfl hB113 (by first | decide | simp) (fun v => by have zb0 : Blk _ g111 50 #[.int .i64 p0, .int .i64 0, .int .i64 0, .int .i64 0, .int .i64 0, .int .i64 0, .int .i64 0, .int .i64 0] := hB113.set_ 0 _; have zb1 : Blk _ g111 50 #[.int .i64 p0, .int .i64 p1, .int .i64 0, .int .i64 0, .int .i64 0, .int .i64 0, .int .i64 0, .int .i64 0] := zb0.set_ 1 _; have zb2 : Blk _ g111 50 #[.int .i64 p0, .int .i64 p1, .int .i64 p2, .int .i64 0, .int .i64 0, .int .i64 0, .int .i64 0, .int .i64 0] := zb1.set_ 2 _; have zb3 : Blk _ g111 50 #[.int .i64 p0, .int .i64 p1, .int .i64 p2, .int .i64 p3, .int .i64 0, .int .i64 0, .int .i64 0, .int .i64 0] := zb2.set_ 3 _; have zb4 : Blk _ g111 50 #[.int .i64 p0, .int .i64 p1, .int .i64 p2, .int .i64 p3, .int .i64 p4, .int .i64 0, .int .i64 0, .int .i64 0] := zb3.set_ 4 _; have zb5 : Blk _ g111 50 #[.int .i64 p0, .int .i64 p1, .int .i64 p2, .int .i64 p3, .int .i64 p4, .int .i64 p5, .int .i64 0, .int .i64 0] := zb4.set_ 5 _; have zb6 : Blk _ g111 50 #[.int .i64 p0, .int .i64 p1, .int .i64 p2, .int .i64 p3, .int .i64 p4, .int .i64 p5, .int .i64 p6, .int .i64 0] := zb5.set_ 6 _; have zb7 : Blk _ g111 50 #[.int .i64 p0, .int .i64 p1, .int .i64 p2, .int .i64 p3, .int .i64 p4, .int .i64 p5, .int .i64 p6, .int .i64 p7] := zb6.set_ 7 _; exact zk v _ ⟨(((((((Upd.at_ _ _ _ _).trans (Upd.at_ _ _ _ _)).trans (Upd.at_ _ _ _ _)).trans (Upd.at_ _ _ _ _)).trans (Upd.at_ _ _ _ _)).trans (Upd.at_ _ _ _ _)).trans (Upd.at_ _ _ _ _)).trans (Upd.at_ _ _ _ _), zb7⟩)) ?_
   rintro v126 w123 ⟨hu124, hB125⟩
   have hb127 : Below w.heap.size w w110 := (bstep hb105 hb114)
   have hb128 := upd_below hb127 hu124 (by omega)
   have hb129 := upd_below hb114 hu124 (by omega)
   have hB130 := hB106.below hb114
   have hB131 := upd_blk hB130 hu124 (by omega)
   have hB132 := hB107.below hb114
   have hB133 := upd_blk hB132 hu124 (by omega)
   have hB134 := hB108.below hb114
   have hB135 := upd_blk hB134 hu124 (by omega)
   have hB136 := hB109.below hb114
   have hB137 := upd_blk hB136 hu124 (by omega)
   have ho138 := hI102.below hb114
   have ho139 := ho138.upd hu124 (by omega)
   refine WL.asg rfl rfl rfl rfl rfl (WL.nil (WE.next (WC.seq (WC.region ?_))))
   refine WL.val _ rfl rfl rfl (fun za zC zh zk => ld_75 rfl (zh.ev rfl) ((hB137.cell 0).trans rfl) zk) ?_
   refine WL.val _ rfl rfl rfl (fun za zC zh zk => ld_50 rfl (zh.ev rfl) ((hB125.cell 0).trans rfl) ((hB125.cell 1).trans rfl) ((hB125.cell 2).trans rfl) ((hB125.cell 3).trans rfl) ((hB125.cell 4).trans rfl) ((hB125.cell 5).trans rfl) ((hB125.cell 6).trans rfl) ((hB125.cell 7).trans rfl) zk) ?_
   refine WL.call rfl rfl rfl (fun za zh zC => wp_callv (by kernel_rfl) rfl (zh.ev rfl) (hv2 (zh.ev rfl) (zh.ev rfl))) (askw_any way _ _ _ (ltr t []) (ltr t [0]) (ltr t [1]) (ltr t [2]) (ltr t [0, 0]) (ltr t [0, 1]) (ltr t [1, 0]) (ltr t [1, 1]) p0 p1 p2 p3 p4 p5 p6 p7 8 0 _ rfl hB133 hB135 hB137) ?_
   rintro _ w141 ⟨rfl, hq140⟩
   refine WL.nil (WE.next ?_)
   refine WC.cond rfl (fun h142 => ?_) (fun h142 => ?_)
   ·skip
    have hf143 : fitP way (bkV b9).1 (prt t) = true := by show fitP way b9.key _ = _; rw [hk9]; first | exact h142 | exact Bool.eq_false_iff.2 h142
    refine WC.seq (WC.region (WL.mv rfl rfl rfl rfl rfl ?_))
    refine WL.val (.int .i64 (((b9.rows.length : Nat) : Int))) rfl rfl rfl (fun za zC zh zk => len_52 rfl (zh.ev rfl) zk) ?_
    refine WL.mv rfl rfl rfl rfl rfl (WL.nil (WE.next (WC.block ?_)))
    have hrow9 : InRow eltR (fun _ => True) w (bag B b9.key) b9.a := by rw [← hbr]; exact ((hO.row b9 hb9).inRow).1
    obtain ⟨rb, ro, rF, rN, rA, rC, hra, hrc9⟩ := InRow.openR hrow9
    have hb145 : Below w100.heap.size w100 w141 := (bstep hb129 hq140)
    have ho144 := hR104.below hb145
    have hnx : x.n ≤ B.length := by have z := (ho144).len; omega
    refine WC.loop (X := FU) (fun u => b9.rows.length - u.k) (fun u => [(0, .pointer (some ⟨g, 0, none⟩)), (1, .agg #[.int .i64 t.f, .slice ta t.args.length tc]), (2, .func (.func (fnW way)) #[] #[]), (4, .pointer (some ⟨g2, 0, none⟩)), (5, .pointer (some ⟨g9, 0, none⟩)), (6, .slice none 0 0), (7, .pointer (some ⟨g24, 0, none⟩)), (8, .slice u.ra u.n u.rc), (9, .pointer (some ⟨g47, 0, none⟩)), (10, .pointer (some ⟨g111, 0, none⟩)), (11, .slice b9.a b9.rows.length b9.c), (16, .bool false), (24, .pointer (some ⟨g70, 0, none⟩)), (26, .bool true), (32, .bool ((fitP way [p0, p1, p2, p3, p4, p5, p6, p7] (prt t)))), (33, .slice b9.a b9.rows.length b9.c), (34, .int .i64 (((b9.rows.length : Nat) : Int))), (35, .int .i64 (((u.k : Nat) : Int)))]) (fun u w146 => u.k ≤ b9.rows.length ∧ w69.heap.size ≤ (w146).heap.size ∧ Below w.heap.size w w146 ∧ Blk w146 g2 24 #[.int .i64 t.f, .slice ta t.args.length tc] ∧ Blk w146 g9 56 #[.func (.func (fnW way)) #[] #[]] ∧ Blk w146 g24 50 #[.int .i64 ((ltr t [])), .int .i64 ((ltr t [0])), .int .i64 ((ltr t [1])), .int .i64 ((ltr t [2])), .int .i64 ((ltr t [0, 0])), .int .i64 ((ltr t [0, 1])), .int .i64 ((ltr t [1, 0])), .int .i64 ((ltr t [1, 1]))] ∧ Blk w146 g47 75 #[.func (Fn.func 41) #[] #[.pointer (some ⟨g9, 0, none⟩), .pointer (some ⟨g24, 0, none⟩), .pointer (some ⟨g47, 0, none⟩)]] ∧ ObjAt (w146) g70 (.mapIter (some m) clock seen2 clock) ∧ RowE eltI (w146) w69.heap.size 3 u.ra u.rc u.n (((askOf B way (prt t) x.done) ++ (bagI B b9.key).take u.k))) (⟨0, x.ra, x.rc, x.n⟩) ⟨rfl, rfl, rfl, rfl, rfl, rfl, rfl, rfl, rfl, rfl, rfl, rfl, rfl, rfl, rfl, rfl, rfl, rfl, trivial⟩ ?_ ?_
    ·have hb147 : Below w.heap.size w w141 := (bstep hb105 hb145)
     have hB148 := hB131.below hq140
     have hB149 := hB133.below hq140
     have hB150 := hB135.below hq140
     have hB151 := hB137.below hq140
     have ho152 := ho139.below hq140
     exact ⟨Nat.zero_le _, (Nat.le_trans (Nat.le_trans hBw (Nat.le_of_eq hu101.size.symm)) hb145.size), hb147, hB148, hB149, hB150, hB151, ho152, (by simpa using ho144)⟩
    ·rintro u w146 ⟨hku, hBu, hb153, hB154, hB155, hB156, hB157, ho158, ho159⟩
     have hun : u.n ≤ B.length := by
      have z := (ho159).len
      rw [List.length_append, List.length_take, List.length_map] at z
      omega
     refine WC.seq (WC.region ?_)
     refine WL.val (.bool ((decide ((((u.k : Nat) : Int) : Int) < (((b9.rows.length : Nat) : Int) : Int))))) rfl rfl rfl (fun za zC zh zk => lss_3 rfl (zh.ev rfl) (zh.ev rfl) zk) ?_
     refine WL.nil (WE.next (WC.seq ?_))
     refine WC.cond rfl (fun h160 => ?_) (fun h160 => ?_)
     ·have h160 : (((u.k : Nat) : Int) : Int) < (((b9.rows.length : Nat) : Int) : Int) := by simpa using h160
      refine WC.skip (WE.next (WC.seq (WC.block (WC.seq (WC.region ?_)))))
      refine WL.val _ rfl rfl rfl (fun za zC zh zk => ix_52 (k := u.k) rfl (zh.ev rfl) (hra u.k (by first | omega | (simp; omega))) (zh.ev rfl) (by first | omega | (simp; omega)) zk) ?_
      refine WL.val _ rfl rfl rfl (fun za zC zh zk => ld_54 rfl (zh.ev rfl) (bkeeps hb153 _ _ ((hrc9 u.k (by first | omega | (simp; omega))).1)) (bkeeps hb153 _ _ ((hrc9 u.k (by first | omega | (simp; omega))).2.1)) (bkeeps hb153 _ _ ((hrc9 u.k (by first | omega | (simp; omega))).2.2)) zk) ?_
      refine WL.step (post := NewBlk w146 54 #[.int .i64 0, .slice none 0 0, .int .i64 0]) rfl rfl rfl (fun za zC zh zk => alloc_54 rfl (zk _ _ (newBlk _ _ _))) ?_
      rintro _ w161 ⟨g162, rfl, hg163, hB164, hb165, hz166⟩
      have hl167 : g2 < g162 := by have z1 := hB154.lt; omega
      have hl168 : g9 < g162 := by have z1 := hB155.lt; omega
      have hl169 : g24 < g162 := by have z1 := hB156.lt; omega
      have hl170 : g47 < g162 := by have z1 := hB157.lt; omega
      have hl171 : g70 < g162 := by have z1 := ho158.lt; omega
      have hl172 : w.heap.size ≤ g162 := by have z2 := (hb153).size; omega
      have hl173 : w146.heap.size ≤ g162 := by omega
      refine WL.step (post := fun _ w' => Upd g162 w161 w' ∧ Blk w' g162 54 #[.int .i64 ((rF u.k)), .slice ((rA u.k)) ((rN u.k)) ((rC u.k)), .int .i64 ((List.getD (bagI B b9.key) u.k 0))]) rfl rfl rfl (fun za zC zh zk => st_54 rfl (zh.ev rfl) (zh.ev rfl) rfl rfl rfl hB164 (by first | decide | simp) (fun v => zk v _ ⟨((Upd.at_ _ _ _ _).trans (Upd.at_ _ _ _ _)).trans (Upd.at_ _ _ _ _), ((hB164.set_ 0 _).set_ 1 _).set_ 2 _⟩)) ?_
      rintro v177 w174 ⟨hu175, hB176⟩
      have hb178 : Below w.heap.size w w161 := (bstep hb153 hb165)
      have hb179 := upd_below hb178 hu175 (by omega)
      have hb180 := upd_below hb165 hu175 (by omega)
      have hB181 := hB154.below hb165
      have hB182 := upd_blk hB181 hu175 (by omega)
      have hB183 := hB155.below hb165
      have hB184 := upd_blk hB183 hu175 (by omega)
      have hB185 := hB156.below hb165
      have hB186 := upd_blk hB185 hu175 (by omega)
      have hB187 := hB157.below hb165
      have hB188 := upd_blk hB187 hu175 (by omega)
      have ho189 := ho158.below hb165
      have ho190 := ho189.upd hu175 (by omega)
      refine WL.nil (WE.next ?_)
      have ho191 := ho159.below hb180
      have hSlt : ∀ b, (fun b => (Value.slice u.ra u.n u.rc).ownBlock = some b) b → b < w174.heap.size := fun b h => (ho191.lt b h).2
      have hSlo : ∀ b, (fun b => (Value.slice u.ra u.n u.rc).ownBlock = some b) b → w69.heap.size ≤ b ∧ b < w146.heap.size := fun b h => ho159.lt b h
      have hBW : w69.heap.size ≤ w174.heap.size := by have z1 := (Nat.le_trans hBu hb180.size); omega
      have hlL : u.n = (((askOf B way (prt t) x.done) ++ (bagI B b9.key).take u.k)).length := ho191.len
      refine WC.tail3 (S := ((fun b => (Value.slice u.ra u.n u.rc).ownBlock = some b))) [(true, .val (.slice u.ra u.n u.rc)), (true, .val (.pointer (some ⟨g162, 2, none⟩))), (true, .val (.int .i64 ((List.getD (bagI B b9.key) u.k 0)))), (true, .mem (fun v w' => OneRow eltI w174 3 ((List.getD (bagI B b9.key) u.k 0)) v w') (fun v w w' hc h => h.chg hc hSlt)), (true, .val undef), (true, .val undef)] [(0, .pointer (some ⟨g, 0, none⟩)), (1, .agg #[.int .i64 t.f, .slice ta t.args.length tc]), (2, .func (.func (fnW way)) #[] #[]), (4, .pointer (some ⟨g2, 0, none⟩)), (5, .pointer (some ⟨g9, 0, none⟩)), (6, .slice none 0 0), (7, .pointer (some ⟨g24, 0, none⟩)), (9, .pointer (some ⟨g47, 0, none⟩)), (10, .pointer (some ⟨g111, 0, none⟩)), (11, .slice b9.a b9.rows.length b9.c), (13, .pointer (some ⟨g162, 0, none⟩)), (16, .bool false), (24, .pointer (some ⟨g70, 0, none⟩)), (26, .bool true), (32, .bool ((fitP way [p0, p1, p2, p3, p4, p5, p6, p7] (prt t)))), (33, .slice b9.a b9.rows.length b9.c), (34, .int .i64 (((b9.rows.length : Nat) : Int))), (35, .int .i64 (((u.k : Nat) : Int))), (36, .bool ((decide ((((u.k : Nat) : Int) : Int) < (((b9.rows.length : Nat) : Int) : Int)))))] 4 5 ((u.n + 1)) 43 8 (fun ra rc wz => RowE eltI wz w69.heap.size 3 ra rc (u.n + 1) ((((askOf B way (prt t) x.done) ++ (bagI B b9.key).take u.k) ++ [(List.getD (bagI B b9.key) u.k 0)]))) (by decide) (fun ra rc w w' hb h => h.below hb) ⟨rfl, rfl, rfl, rfl, rfl, rfl, rfl, rfl, rfl, rfl, rfl, rfl, rfl, rfl, rfl, rfl, rfl, rfl, rfl, trivial⟩ (by kernel_rfl) (by kernel_rfl) (by kernel_rfl) (by kernel_rfl) (by kernel_rfl) (by kernel_rfl) ?_ ?_
      ·refine ⟨.inl ⟨rfl, true, .none rfl, (fun gg b h => by cases h), fun h w => optUndef h, fun zβ za zw zc => ?_⟩, ?_⟩
       ·exact wp_move rfl ((evt za 8).trans (zc.old 8 _ rfl (by kernel_rfl))) ⟨_, rfl, Below.refl _ _, optDef zβ rfl⟩
       refine ⟨.inl ⟨rfl, true, .none rfl, (fun gg b h => by cases h), fun h w => optUndef h, fun zβ za zw zc => ?_⟩, ?_⟩
       ·exact fld_54_1 rfl (zc.kn.ev rfl) ⟨_, rfl, Below.refl _ _, optDef zβ rfl⟩
       refine ⟨.inl ⟨rfl, true, .none rfl, (fun gg b h => by cases h), fun h w => optUndef h, fun zβ za zw zc => ?_⟩, ?_⟩
       ·exact ld_3 rfl ((evt za 40).trans (optSVal (zc.dep 1 40 (by kernel_rfl) (by decide)) rfl rfl)) (bkeeps (zc.early (by kernel_rfl)) _ _ ((hB176.cell 2).trans rfl)) ⟨_, rfl, Below.refl _ _, optDef zβ rfl⟩
       refine ⟨.inl ⟨rfl, true, .none rfl, (fun gg b h => by cases h), fun h w => optUndef h, fun zβ za zw zc => ?_⟩, ?_⟩
       ·exact row_31_1 rfl ((evt za 41).trans (optSVal (zc.dep 2 41 (by kernel_rfl) (by decide)) rfl rfl)) ⟨_, rfl, balloc _ _, optDef zβ ⟨_, [.int .i64 ((List.getD (bagI B b9.key) u.k 0))], rfl, zc.chg.size, Blk.new' rfl, rfl⟩⟩
       refine ⟨.inr (.inl ⟨rfl, rfl, fun za zw zc => ?_⟩), ?_⟩
       ·obtain ⟨g1, cs, e1, hg1, hB1, hin⟩ := (optSMem (zc.dep 3 42 (by kernel_rfl) (by decide)) rfl rfl)
        exact wp_appE (E := eltI) (size := 1) (bytes := 8) (z := .int .i64 0) rfl Try.underlying31 (by kernel_rfl) rfl (by decide) rfl ((evt za 39).trans (optSVal (zc.dep 0 39 (by kernel_rfl) (by decide)) rfl rfl)) ((evt za 42).trans e1) (ho191.below zc.below) hB1 (eltI.mono (fun b hb _ => ⟨by omega, fun e => by have z := (ho191.lt b e).2; omega⟩) hin) (by omega) (by omega) (by have z := zc.below.size; omega) (fun ra rc w' h1 h2 _ => ⟨ra, rc, rfl, h1, h2⟩)
       refine ⟨.inr (.inr ⟨rfl, rfl, 43, by kernel_rfl, rfl⟩), ?_⟩
       exact trivial
      ·intro za w192 ra195 rc196 zh zv zv2 hG193 hc194 zu
       have zh := zh.cons (d := 8) zv2
       have hb197 := chg_below hb179 hc194 (fun b hb => (fun h => by have h := hSlo _ h; (try dsimp only at *); omega))
       have hB198 := chg_blk hB182 hc194 (fun h => by have h := hSlo _ h; (try dsimp only at *); omega)
       have hB199 := chg_blk hB184 hc194 (fun h => by have h := hSlo _ h; (try dsimp only at *); omega)
       have hB200 := chg_blk hB186 hc194 (fun h => by have h := hSlo _ h; (try dsimp only at *); omega)
       have hB201 := chg_blk hB188 hc194 (fun h => by have h := hSlo _ h; (try dsimp only at *); omega)
       have hB202 := chg_blk hB176 hc194 (fun h => by have h := hSlo _ h; (try dsimp only at *); omega)
       have ho203 := ho190.chg hc194 (fun h => by have h := hSlo _ h; (try dsimp only at *); omega)
       clear zu
       refine WE.go zh ?_
       refine WE.blockNormal (WE.next (WC.region ?_))
       refine WL.val (.int .i64 ((((u.k + 1) : Nat) : Int))) rfl rfl rfl (fun za zC zh zk => addb_3 rfl (zh.ev rfl) (zh.ev rfl) (wrap_eq (by omega) (by omega) (by omega)) zk) ?_
       refine WL.mv rfl rfl rfl rfl rfl (WL.nil ?_)
       refine WE.round (⟨u.k + 1, ra195, rc196, (u.n + 1)⟩) ⟨rfl, rfl, rfl, rfl, rfl, rfl, rfl, rfl, rfl, rfl, rfl, rfl, rfl, rfl, rfl, rfl, rfl, rfl, trivial⟩ ?_ ?_
       ·exact ⟨(by (try dsimp only); omega), (Nat.le_trans (Nat.le_trans hBu hb180.size) hc194.size), hb197, hB198, hB199, hB200, hB201, ho203, (by rw [take_int (by rw [List.length_map]; omega)]; rw [← List.append_assoc]; exact hG193)⟩
       ·(try dsimp only); omega
     ·have h160 : ¬ ((((u.k : Nat) : Int) : Int) < (((b9.rows.length : Nat) : Int) : Int)) := by simpa using h160
      refine WC.exit (WE.thenExit (WE.thenExit (WE.blockIs rfl (WE.blockNormal ?_))))
      refine WE.round (⟨x.done ++ [bkV b9], rest2, seen2, u.ra, u.rc, u.n⟩) ⟨rfl, rfl, rfl, rfl, rfl, rfl, rfl, rfl, rfl, rfl, rfl, trivial⟩ ?_ ?_
      ·exact ⟨hBu, hIt2, hb153, hB154, hB155, hB156, hB157, ho158, (by rw [askOf_yes (z := bkV b9) hf143]; have z := ho159; rw [List.take_of_length_le (by rw [List.length_map]; omega)] at z; exact z)⟩
      ·exact hrl
   ·skip
    have hf204 : fitP way (bkV b9).1 (prt t) = false := by show fitP way b9.key _ = _; rw [hk9]; first | exact h142 | exact Bool.eq_false_iff.2 h142
    refine WC.skip (WE.blockNormal ?_)
    refine WE.round (⟨x.done ++ [bkV b9], rest2, seen2, x.ra, x.rc, x.n⟩) ⟨rfl, rfl, rfl, rfl, rfl, rfl, rfl, rfl, rfl, rfl, rfl, trivial⟩ ?_ ?_
    ·have hb205 : Below w.heap.size w w141 := (bstep hb128 hq140)
     have hB206 := hB131.below hq140
     have hB207 := hB133.below hq140
     have hB208 := hB135.below hq140
     have hB209 := hB137.below hq140
     have ho210 := ho139.below hq140
     have hb212 : Below w100.heap.size w100 w141 := (bstep hb129 hq140)
     have ho211 := hR104.below hb212
     exact ⟨(Nat.le_trans (Nat.le_trans (Nat.le_trans hBw (Nat.le_of_eq hu101.size.symm)) hb129.size) hq140.size), hIt2, hb205, hB206, hB207, hB208, hB209, ho210, (by rw [askOf_no (z := bkV b9) hf204]; exact ho211)⟩
    ·exact hrl
set_option maxRecDepth 100000 in
theorem fUni_any (g : Nat) (Z : Nat → Prop) (B : List TI) (w : World) (t : T) (v : Value) (hBl : B.length ≤ 1000000) (ht : IsT w t v) (hK : FpIs w g Z B) : Calls Try.prog 10 #[.pointer (some ⟨g, 0, none⟩), v] w (Ret fun v' w' => Told w w' (askP B 0 (prt t)) v' ∧ Below w.heap.size w w') := by
 have hvt := ht
 obtain ⟨_, ta, tc, rfl, _, _, _⟩ := ht.form
 refine Calls.walk (l := [.pointer (some ⟨g, 0, none⟩), .agg #[.int .i64 t.f, .slice ta t.args.length tc]]) Try.func10 rfl (by kernel_rfl) ?_
 refine WC.sub (K' := [(0, .pointer (some ⟨g, 0, none⟩)), (1, .agg #[.int .i64 t.f, .slice ta t.args.length tc])]) ⟨rfl, rfl, trivial⟩ ?_
 refine WC.seq (WC.region ?_)
 refine WL.step (post := NewBlk w 24 #[.int .i64 t.f, .slice ta t.args.length tc]) rfl rfl rfl (fun za zC zh zk => box_24 rfl (zh.ev rfl) (zk _ _ (newBlk _ _ _))) ?_
 rintro _ w1 ⟨g2, rfl, hg3, hB4, hb5, hz6⟩
 have hl7 : w.heap.size ≤ g2 := by omega
 refine WL.asg rfl rfl rfl rfl rfl (WL.nil (WE.next (WC.seq (WC.region (WL.mv rfl rfl rfl rfl rfl ?_)))))
 refine WL.val _ rfl rfl rfl (fun za zC zh zk => ld_24 rfl (zh.ev rfl) ((hB4.cell 0).trans rfl) ((hB4.cell 1).trans rfl) zk) ?_
 refine WL.call rfl rfl rfl (fun za zh zC => wp_call (by kernel_rfl) rfl (hv3 (zh.ev rfl) (zh.ev rfl) (zh.ev rfl))) (ask_any g Z B _ 0 t _ hBl (IsT.below hb5 hvt) (FpIs.below hK hb5)) ?_
 rintro _ w8 ⟨⟨ta9, tc9, rfl, hlT, hcT, hrT⟩, hbT⟩
 refine WL.asg rfl rfl rfl rfl rfl (WL.nil (WE.next (WC.ret (WE.ret1 rfl rfl ?_))))
 have hb9 : Below w.heap.size w w8 := (bstep hb5 hbT)
 exact ⟨_, rfl, ⟨_, _, rfl, hlT, hcT, hrT.mono (by decide) (fun b q _ => by have q2 : w1.heap.size ≤ b := q; (have z := hb5.size); omega)⟩, hb9⟩
set_option maxRecDepth 100000 in
theorem fGen_any (g : Nat) (Z : Nat → Prop) (B : List TI) (w : World) (t : T) (v : Value) (hBl : B.length ≤ 1000000) (ht : IsT w t v) (hK : FpIs w g Z B) : Calls Try.prog 11 #[.pointer (some ⟨g, 0, none⟩), v] w (Ret fun v' w' => Told w w' (askP B 1 (prt t)) v' ∧ Below w.heap.size w w') := by
 have hvt := ht
 obtain ⟨_, ta, tc, rfl, _, _, _⟩ := ht.form
 refine Calls.walk (l := [.pointer (some ⟨g, 0, none⟩), .agg #[.int .i64 t.f, .slice ta t.args.length tc]]) Try.func11 rfl (by kernel_rfl) ?_
 refine WC.sub (K' := [(0, .pointer (some ⟨g, 0, none⟩)), (1, .agg #[.int .i64 t.f, .slice ta t.args.length tc])]) ⟨rfl, rfl, trivial⟩ ?_
 refine WC.seq (WC.region ?_)
 refine WL.step (post := NewBlk w 24 #[.int .i64 t.f, .slice ta t.args.length tc]) rfl rfl rfl (fun za zC zh zk => box_24 rfl (zh.ev rfl) (zk _ _ (newBlk _ _ _))) ?_
 rintro _ w1 ⟨g2, rfl, hg3, hB4, hb5, hz6⟩
 have hl7 : w.heap.size ≤ g2 := by omega
 refine WL.asg rfl rfl rfl rfl rfl (WL.nil (WE.next (WC.seq (WC.region (WL.mv rfl rfl rfl rfl rfl ?_)))))
 refine WL.val _ rfl rfl rfl (fun za zC zh zk => ld_24 rfl (zh.ev rfl) ((hB4.cell 0).trans rfl) ((hB4.cell 1).trans rfl) zk) ?_
 refine WL.call rfl rfl rfl (fun za zh zC => wp_call (by kernel_rfl) rfl (hv3 (zh.ev rfl) (zh.ev rfl) (zh.ev rfl))) (ask_any g Z B _ 1 t _ hBl (IsT.below hb5 hvt) (FpIs.below hK hb5)) ?_
 rintro _ w8 ⟨⟨ta9, tc9, rfl, hlT, hcT, hrT⟩, hbT⟩
 refine WL.asg rfl rfl rfl rfl rfl (WL.nil (WE.next (WC.ret (WE.ret1 rfl rfl ?_))))
 have hb9 : Below w.heap.size w w8 := (bstep hb5 hbT)
 exact ⟨_, rfl, ⟨_, _, rfl, hlT, hcT, hrT.mono (by decide) (fun b q _ => by have q2 : w1.heap.size ≤ b := q; (have z := hb5.size); omega)⟩, hb9⟩
set_option maxRecDepth 100000 in
theorem fIns_any (g : Nat) (Z : Nat → Prop) (B : List TI) (w : World) (t : T) (v : Value) (hBl : B.length ≤ 1000000) (ht : IsT w t v) (hK : FpIs w g Z B) : Calls Try.prog 12 #[.pointer (some ⟨g, 0, none⟩), v] w (Ret fun v' w' => Told w w' (askP B 2 (prt t)) v' ∧ Below w.heap.size w w') := by
 have hvt := ht
 obtain ⟨_, ta, tc, rfl, _, _, _⟩ := ht.form
 refine Calls.walk (l := [.pointer (some ⟨g, 0, none⟩), .agg #[.int .i64 t.f, .slice ta t.args.length tc]]) Try.func12 rfl (by kernel_rfl) ?_
 refine WC.sub (K' := [(0, .pointer (some ⟨g, 0, none⟩)), (1, .agg #[.int .i64 t.f, .slice ta t.args.length tc])]) ⟨rfl, rfl, trivial⟩ ?_
 refine WC.seq (WC.region ?_)
 refine WL.step (post := NewBlk w 24 #[.int .i64 t.f, .slice ta t.args.length tc]) rfl rfl rfl (fun za zC zh zk => box_24 rfl (zh.ev rfl) (zk _ _ (newBlk _ _ _))) ?_
 rintro _ w1 ⟨g2, rfl, hg3, hB4, hb5, hz6⟩
 have hl7 : w.heap.size ≤ g2 := by omega
 refine WL.asg rfl rfl rfl rfl rfl (WL.nil (WE.next (WC.seq (WC.region (WL.mv rfl rfl rfl rfl rfl ?_)))))
 refine WL.val _ rfl rfl rfl (fun za zC zh zk => ld_24 rfl (zh.ev rfl) ((hB4.cell 0).trans rfl) ((hB4.cell 1).trans rfl) zk) ?_
 refine WL.call rfl rfl rfl (fun za zh zC => wp_call (by kernel_rfl) rfl (hv3 (zh.ev rfl) (zh.ev rfl) (zh.ev rfl))) (ask_any g Z B _ 2 t _ hBl (IsT.below hb5 hvt) (FpIs.below hK hb5)) ?_
 rintro _ w8 ⟨⟨ta9, tc9, rfl, hlT, hcT, hrT⟩, hbT⟩
 refine WL.asg rfl rfl rfl rfl rfl (WL.nil (WE.next (WC.ret (WE.ret1 rfl rfl ?_))))
 have hb9 : Below w.heap.size w w8 := (bstep hb5 hbT)
 exact ⟨_, rfl, ⟨_, _, rfl, hlT, hcT, hrT.mono (by decide) (fun b q _ => by have q2 : w1.heap.size ≤ b := q; (have z := hb5.size); omega)⟩, hb9⟩
end Go.Proofs.Ytibncmnmjhimeaa
