/- Signatures, plain. -/
import Derived.Test.YtbohlpfndiiimaaBKPc
import Derived.Test.YtbohlpfndiiimaaBKPb
import Derived.Test.YtbohlpfndiiimaaBKPa

/- What a bank tells: the program. -/
namespace Go.Proofs.Ytbohlpfndiiimaa
open Go.RowKit Go
set_option linter.unusedVariables false
set_option linter.unusedSimpArgs false
section
variable {w : World} {a : Act} {K : Act → World → Prop} {Q : Exit → Act → World → Prop} {o : Oper}
theorem wp_neqm {x y : Operand} {r : Nat} (ho : o.op = .binOp .neq 67 x y 67) (hx : a.eval x = .map (some r)) (hy : a.eval y = .map none) (hK : K (a.put o.dst (.bool true)) w) : o.wp Try.prog a w K Q := by
 have um := Try.underlying67
 have he : (Op.equal 67 (.map (some r)) (.map none)).run Try.prog w = .ok false w := by
  unfold Op.equal
  rw [show Op.maxDepth = 9999 + 1 from rfl]
  generalize (9999 : Nat) = n
  simp [Op.equalIn, run_underlying um, go_sem]
 have hb : (binOp .neq 67 (.map (some r)) (.map none)).run Try.prog w = .ok (.bool true) w := by
  simp [binOp, he]
 unfold Oper.wp execOp
 simp only [ho, hx, hy, Sem.run_bind, hb, Result.andThen_ok]
 go_simp
 exact hK
end
set_option maxRecDepth 100000 in
theorem bok_any (g : Nat) (sg : Value) (Z : Nat → Prop) (N : List En) (w : World)  (hK : BkIs w g sg Z N) :
  Calls Try.prog 29 #[.pointer (some ⟨g, 0, none⟩)] w (Ret fun v' w' => v' = .bool true ∧ Below w.heap.size w w') := by
 have h := hK
 obtain ⟨S9, m, la, lc, L, R, hb, hw, hz, hl⟩ := h
 have hn := hw.len
 refine Calls.walk (l := [.pointer (some ⟨g, 0, none⟩)]) Try.func29 rfl (by kernel_rfl) ?_
 refine WC.sub (K' := [(0, .pointer (some ⟨g, 0, none⟩))]) ⟨rfl, trivial⟩ ?_
 refine WC.seq (WC.region (WL.asg rfl rfl rfl rfl rfl (WL.nil (WE.next (WC.seq ?_)))))
 refine WC.opt [(true, .val (.pointer (some ⟨g, 0, none⟩))), (true, .val (.bool true)), (true, .val (.bool true)), ((true && true), .val (.pointer (some ⟨g, 0, none⟩))), ((true && true), .val (.pointer (some ⟨g, 0, none⟩))), ((true && true), .val (.pointer (some ⟨g, 2, none⟩))), ((true && true), .val (.map ((some m)))), ((true && true), .val (.bool true)), (true, .val (.bool true)), (true, .val (.bool true))] [(0, .pointer (some ⟨g, 0, none⟩))] ⟨rfl, trivial⟩ (by kernel_rfl) (by kernel_rfl) (by kernel_rfl) ?_ ?_
 ·refine ⟨⟨true, .none rfl, fun h w => optUndef h, fun zβ za zw zc => ?_⟩, ?_⟩
  ·exact wp_move rfl (zc.kn.ev rfl) ⟨_, rfl, Below.refl _ _, optDef zβ rfl⟩
  refine ⟨⟨true, .none rfl, fun h w => optUndef h, fun zβ za zw zc => ?_⟩, ?_⟩
  ·exact neqp_26 rfl ((evt za 3).trans (optVal (zc.dep 0 3 (by kernel_rfl)) rfl rfl)) (zc.kn.ev rfl) ⟨_, rfl, Below.refl _ _, optDef zβ rfl⟩
  refine ⟨⟨true, .none rfl, fun h w => optUndef h, fun zβ za zw zc => ?_⟩, ?_⟩
  ·exact wp_move rfl ((evt za 4).trans (optVal (zc.dep 1 4 (by kernel_rfl)) rfl rfl)) ⟨_, rfl, Below.refl _ _, optDef zβ rfl⟩
  refine ⟨⟨_, .yes (d := true) rfl (fun v w h => h), fun h w => optUndef h, fun zβ za zw zc => ?_⟩, ?_⟩
  ·exact wp_move rfl (zc.kn.ev rfl) ⟨_, rfl, Below.refl _ _, optDef zβ rfl⟩
  refine ⟨⟨_, .yes (d := true) rfl (fun v w h => h), fun h w => optUndef h, fun zβ za zw zc => ?_⟩, ?_⟩
  ·exact nilCheck_ rfl ((evt za 6).trans (optVal (zc.dep 3 6 (by kernel_rfl)) rfl rfl)) ⟨_, rfl, Below.refl _ _, optDef zβ rfl⟩
  refine ⟨⟨_, .yes (d := true) rfl (fun v w h => h), fun h w => optUndef h, fun zβ za zw zc => ?_⟩, ?_⟩
  ·exact fld_70_2 rfl ((evt za 7).trans (optVal (zc.dep 4 7 (by kernel_rfl)) rfl rfl)) ⟨_, rfl, Below.refl _ _, optDef zβ rfl⟩
  refine ⟨⟨_, .yes (d := true) rfl (fun v w h => h), fun h w => optUndef h, fun zβ za zw zc => ?_⟩, ?_⟩
  ·exact ld_67 rfl ((evt za 8).trans (optVal (zc.dep 5 8 (by kernel_rfl)) rfl rfl)) (bkeeps zc.below _ _ hb.c2) ⟨_, rfl, Below.refl _ _, optDef zβ rfl⟩
  refine ⟨⟨_, .yes (d := true) rfl (fun v w h => h), fun h w => optUndef h, fun zβ za zw zc => ?_⟩, ?_⟩
  ·exact wp_neqm rfl ((evt za 9).trans (optVal (zc.dep 6 9 (by kernel_rfl)) rfl rfl)) (zc.kn.ev rfl) ⟨_, rfl, Below.refl _ _, optDef zβ rfl⟩
  refine ⟨⟨true, .none rfl, fun h w => optUndef h, fun zβ za zw zc => ?_⟩, ?_⟩
  ·exact wp_pickT rfl ((evt za 5).trans (optVal (zc.dep 2 5 (by kernel_rfl)) rfl rfl)) ((evt za 10).trans (optVal (zc.dep 7 10 (by kernel_rfl)) rfl rfl)) ⟨_, rfl, Below.refl _ _, optDef zβ rfl⟩
  refine ⟨⟨true, .none rfl, fun h w => optUndef h, fun zβ za zw zc => ?_⟩, ?_⟩
  ·exact wp_assign rfl ((evt za 11).trans (optVal (zc.dep 8 11 (by kernel_rfl)) rfl rfl)) ⟨_, rfl, Below.refl _ _, optDef zβ rfl⟩
  exact trivial
 ·intro za w1 zh hb2 zu
  have zh := zh.cons (d := 2) (v := .bool true) (optVal (zu 9 2 (by kernel_rfl)) rfl rfl)
  clear zu
  refine WE.go zh ?_
  refine WE.next (WC.ret (WE.ret1 rfl rfl ?_))
  exact ⟨_, rfl, rfl, hb2⟩
set_option maxRecDepth 100000 in
theorem blen_any (g : Nat) (sg : Value) (Z : Nat → Prop) (N : List En) (w : World)  (hK : BkIs w g sg Z N) :
  Calls Try.prog 14 #[.pointer (some ⟨g, 0, none⟩)] w (Ret fun v' w' => v' = .int .i64 ((N.length : Nat) : Int) ∧ Below w.heap.size w w') := by
 have h := hK
 obtain ⟨S9, m, la, lc, L, R, hb, hw, hz, hl⟩ := h
 have hn := hw.len
 refine Calls.walk (l := [.pointer (some ⟨g, 0, none⟩)]) Try.func14 rfl (by kernel_rfl) ?_
 refine WC.sub (K' := [(0, .pointer (some ⟨g, 0, none⟩))]) ⟨rfl, trivial⟩ ?_
 refine WC.seq (WC.region (WL.asg rfl rfl rfl rfl rfl (WL.nil (WE.next (WC.seq (WC.seq (WC.region (WL.mv rfl rfl rfl rfl rfl ?_))))))))
 refine WL.call rfl rfl rfl (fun za zh zC => wp_call (by kernel_rfl) rfl (hv1 (zh.ev rfl))) (bok_any g sg Z N _ (BkIs.below hK (Below.refl _ _))) ?_
 rintro _ w2 ⟨rfl, hq1⟩
 refine WL.val (.bool false) rfl rfl rfl (fun za zC zh zk => wp_not rfl (zh.ev rfl) zk) ?_
 refine WL.nil (WE.next ?_)
 refine WC.condF rfl rfl ?_
 refine WC.skip (WE.next (WC.seq (WC.region (WL.mv rfl rfl rfl rfl rfl ?_))))
 refine WL.val _ rfl rfl rfl (fun za zC zh zk => nilCheck_ rfl (zh.ev rfl) zk) ?_
 refine WL.val _ rfl rfl rfl (fun za zC zh zk => fld_70_1 rfl (zh.ev rfl) zk) ?_
 have hc3 := bkeeps hq1 _ _ hb.c1
 refine WL.val _ rfl rfl rfl (fun za zC zh zk => ld_68 rfl (zh.ev rfl) hc3 zk) ?_
 refine WL.val (.int .i64 (((L.length : Nat) : Int))) rfl rfl rfl (fun za zC zh zk => len_68 rfl (zh.ev rfl) zk) ?_
 refine WL.asg rfl rfl rfl rfl rfl (WL.nil (WE.next (WC.ret (WE.ret1 rfl rfl ?_))))
 exact ⟨_, rfl, by rw [hn], hq1⟩
set_option maxRecDepth 100000 in
theorem bhas_any (g : Nat) (sg : Value) (Z : Nat → Prop) (N : List En) (w : World) (k : Nat) (hK : BkIs w g sg Z N) (hk : k < N.length) :
  Calls Try.prog 33 #[.pointer (some ⟨g, 0, none⟩), .int .i64 (((k : Nat) : Int))] w (Ret fun v' w' => v' = .bool true ∧ Below w.heap.size w w') := by
 have h := hK
 obtain ⟨S9, m, la, lc, L, R, hb, hw, hz, hl⟩ := h
 have hn := hw.len
 refine Calls.walk (l := [.pointer (some ⟨g, 0, none⟩), .int .i64 (((k : Nat) : Int))]) Try.func33 rfl (by kernel_rfl) ?_
 refine WC.sub (K' := [(0, .pointer (some ⟨g, 0, none⟩)), (1, .int .i64 (((k : Nat) : Int)))]) ⟨rfl, rfl, trivial⟩ ?_
 refine WC.seq (WC.region (WL.asg rfl rfl rfl rfl rfl (WL.nil (WE.next (WC.seq ?_)))))
 refine WC.opt [(true, .val (.pointer (some ⟨g, 0, none⟩))), (true, .val (.bool true)), (true, .val (.bool true)), ((true && true), .val (.int .i64 (((k : Nat) : Int)))), ((true && true), .val (.bool ((decide ((0 : Int) ≤ (((k : Nat) : Int) : Int)))))), (true, .val (.bool ((decide ((0 : Int) ≤ (((k : Nat) : Int) : Int)))))), (true, .val (.bool ((decide ((0 : Int) ≤ (((k : Nat) : Int) : Int)))))), ((true && (decide ((0 : Int) ≤ (((k : Nat) : Int) : Int)))), .val (.int .i64 (((k : Nat) : Int)))), ((true && (decide ((0 : Int) ≤ (((k : Nat) : Int) : Int)))), .val (.pointer (some ⟨g, 0, none⟩))), ((true && (decide ((0 : Int) ≤ (((k : Nat) : Int) : Int)))), .val (.pointer (some ⟨g, 0, none⟩))), ((true && (decide ((0 : Int) ≤ (((k : Nat) : Int) : Int)))), .val (.pointer (some ⟨g, 1, none⟩))), ((true && (decide ((0 : Int) ≤ (((k : Nat) : Int) : Int)))), .val (.slice la L.length lc)), ((true && (decide ((0 : Int) ≤ (((k : Nat) : Int) : Int)))), .val (.int .i64 (((L.length : Nat) : Int)))), ((true && (decide ((0 : Int) ≤ (((k : Nat) : Int) : Int)))), .val (.bool ((decide ((((k : Nat) : Int) : Int) < (((L.length : Nat) : Int) : Int)))))), (true, .val (.bool (((decide ((0 : Int) ≤ (((k : Nat) : Int) : Int))) && (decide ((((k : Nat) : Int) : Int) < (((L.length : Nat) : Int) : Int))))))), (true, .val (.bool (((decide ((0 : Int) ≤ (((k : Nat) : Int) : Int))) && (decide ((((k : Nat) : Int) : Int) < (((L.length : Nat) : Int) : Int)))))))] [(0, .pointer (some ⟨g, 0, none⟩)), (1, .int .i64 (((k : Nat) : Int)))] ⟨rfl, rfl, trivial⟩ (by kernel_rfl) (by kernel_rfl) (by kernel_rfl) ?_ ?_
 ·refine ⟨⟨true, .none rfl, fun h w => optUndef h, fun zβ za zw zc => ?_⟩, ?_⟩
  ·exact wp_move rfl (zc.kn.ev rfl) ⟨_, rfl, Below.refl _ _, optDef zβ rfl⟩
  refine ⟨⟨true, .none rfl, fun h w => optUndef h, fun zβ za zw zc => ?_⟩, ?_⟩
  ·exact wp_call (by kernel_rfl) rfl (hv1 ((evt za 5).trans (optVal (zc.dep 0 5 (by kernel_rfl)) rfl rfl))) (bok_any g sg Z N _ (BkIs.below hK zc.below)) (fun v w' h => ⟨v, rfl, h.2, optDef zβ h.1⟩)
  refine ⟨⟨true, .none rfl, fun h w => optUndef h, fun zβ za zw zc => ?_⟩, ?_⟩
  ·exact wp_move rfl ((evt za 6).trans (optVal (zc.dep 1 6 (by kernel_rfl)) rfl rfl)) ⟨_, rfl, Below.refl _ _, optDef zβ rfl⟩
  refine ⟨⟨_, .yes (d := true) rfl (fun v w h => h), fun h w => optUndef h, fun zβ za zw zc => ?_⟩, ?_⟩
  ·exact wp_move rfl (zc.kn.ev rfl) ⟨_, rfl, Below.refl _ _, optDef zβ rfl⟩
  refine ⟨⟨_, .yes (d := true) rfl (fun v w h => h), fun h w => optUndef h, fun zβ za zw zc => ?_⟩, ?_⟩
  ·exact geq_3 rfl ((evt za 8).trans (optVal (zc.dep 3 8 (by kernel_rfl)) rfl rfl)) (zc.kn.ev rfl) ⟨_, rfl, Below.refl _ _, optDef zβ rfl⟩
  refine ⟨⟨true, .none rfl, fun h w => optUndef h, fun zβ za zw zc => ?_⟩, ?_⟩
  ·exact wp_pickT rfl ((evt za 7).trans (optVal (zc.dep 2 7 (by kernel_rfl)) rfl rfl)) ((evt za 9).trans (optVal (zc.dep 4 9 (by kernel_rfl)) rfl rfl)) ⟨_, rfl, Below.refl _ _, optDef zβ rfl⟩
  refine ⟨⟨true, .none rfl, fun h w => optUndef h, fun zβ za zw zc => ?_⟩, ?_⟩
  ·exact wp_move rfl ((evt za 10).trans (optVal (zc.dep 5 10 (by kernel_rfl)) rfl rfl)) ⟨_, rfl, Below.refl _ _, optDef zβ rfl⟩
  refine ⟨⟨_, .yes (d := true) rfl (fun v w h => h), fun h w => optUndef h, fun zβ za zw zc => ?_⟩, ?_⟩
  ·exact wp_move rfl (zc.kn.ev rfl) ⟨_, rfl, Below.refl _ _, optDef zβ rfl⟩
  refine ⟨⟨_, .yes (d := true) rfl (fun v w h => h), fun h w => optUndef h, fun zβ za zw zc => ?_⟩, ?_⟩
  ·exact wp_move rfl (zc.kn.ev rfl) ⟨_, rfl, Below.refl _ _, optDef zβ rfl⟩
  refine ⟨⟨_, .yes (d := true) rfl (fun v w h => h), fun h w => optUndef h, fun zβ za zw zc => ?_⟩, ?_⟩
  ·exact nilCheck_ rfl ((evt za 13).trans (optVal (zc.dep 8 13 (by kernel_rfl)) rfl zβ)) ⟨_, rfl, Below.refl _ _, optDef zβ rfl⟩
  refine ⟨⟨_, .yes (d := true) rfl (fun v w h => h), fun h w => optUndef h, fun zβ za zw zc => ?_⟩, ?_⟩
  ·exact fld_70_1 rfl ((evt za 14).trans (optVal (zc.dep 9 14 (by kernel_rfl)) rfl zβ)) ⟨_, rfl, Below.refl _ _, optDef zβ rfl⟩
  refine ⟨⟨_, .yes (d := true) rfl (fun v w h => h), fun h w => optUndef h, fun zβ za zw zc => ?_⟩, ?_⟩
  ·exact ld_68 rfl ((evt za 15).trans (optVal (zc.dep 10 15 (by kernel_rfl)) rfl zβ)) (bkeeps zc.below _ _ hb.c1) ⟨_, rfl, Below.refl _ _, optDef zβ rfl⟩
  refine ⟨⟨_, .yes (d := true) rfl (fun v w h => h), fun h w => optUndef h, fun zβ za zw zc => ?_⟩, ?_⟩
  ·exact len_68 rfl ((evt za 16).trans (optVal (zc.dep 11 16 (by kernel_rfl)) rfl zβ)) ⟨_, rfl, Below.refl _ _, optDef zβ rfl⟩
  refine ⟨⟨_, .yes (d := true) rfl (fun v w h => h), fun h w => optUndef h, fun zβ za zw zc => ?_⟩, ?_⟩
  ·exact lss_3 rfl ((evt za 12).trans (optVal (zc.dep 7 12 (by kernel_rfl)) rfl zβ)) ((evt za 17).trans (optVal (zc.dep 12 17 (by kernel_rfl)) rfl zβ)) ⟨_, rfl, Below.refl _ _, optDef zβ rfl⟩
  refine ⟨⟨true, .none rfl, fun h w => optUndef h, fun zβ za zw zc => ?_⟩, ?_⟩
  ·exact wp_and rfl ((evt za 11).trans (optVal (zc.dep 6 11 (by kernel_rfl)) rfl rfl)) (fun hp => ((evt za 18).trans (optVal (zc.dep 13 18 (by kernel_rfl)) rfl (bMk zβ hp)))) ⟨_, rfl, Below.refl _ _, optDef zβ rfl⟩
  refine ⟨⟨true, .none rfl, fun h w => optUndef h, fun zβ za zw zc => ?_⟩, ?_⟩
  ·exact wp_assign rfl ((evt za 19).trans (optVal (zc.dep 14 19 (by kernel_rfl)) rfl rfl)) ⟨_, rfl, Below.refl _ _, optDef zβ rfl⟩
  exact trivial
 ·intro za w1 zh hb2 zu
  have zh := zh.cons (d := 4) (v := .bool (((decide ((0 : Int) ≤ (((k : Nat) : Int) : Int))) && (decide ((((k : Nat) : Int) : Int) < (((L.length : Nat) : Int) : Int)))))) (optVal (zu 15 4 (by kernel_rfl)) rfl rfl)
  clear zu
  refine WE.go zh ?_
  refine WE.next (WC.ret (WE.ret1 rfl rfl ?_))
  exact ⟨_, rfl, congrArg Value.bool (by simp; omega), hb2⟩
set_option maxRecDepth 100000 in
theorem bsize_any (g : Nat) (sg : Value) (Z : Nat → Prop) (N : List En) (w : World) (k : Nat) (hK : BkIs w g sg Z N) (hk : k < N.length) :
  Calls Try.prog 15 #[.pointer (some ⟨g, 0, none⟩), .int .i64 (((k : Nat) : Int))] w (Ret fun v' w' => v' = .int .i64 (((tmE N k).size : Nat) : Int) ∧ Below w.heap.size w w') := by
 have h := hK
 obtain ⟨S9, m, la, lc, L, R, hb, hw, hz, hl⟩ := h
 have hn := hw.len
 obtain ⟨b9, A9, C9, rfl, ho9, hc9⟩ := hb.opn (by omega)
 refine Calls.walk (l := [.pointer (some ⟨g, 0, none⟩), .int .i64 (((k : Nat) : Int))]) Try.func15 rfl (by kernel_rfl) ?_
 refine WC.sub (K' := [(0, .pointer (some ⟨g, 0, none⟩)), (1, .int .i64 (((k : Nat) : Int)))]) ⟨rfl, rfl, trivial⟩ ?_
 refine WC.seq (WC.region (WL.asg rfl rfl rfl rfl rfl (WL.nil (WE.next (WC.seq (WC.seq (WC.region (WL.mv rfl rfl rfl rfl rfl (WL.mv rfl rfl rfl rfl rfl ?_)))))))))
 refine WL.call rfl rfl rfl (fun za zh zC => wp_call (by kernel_rfl) rfl (hv2 (zh.ev rfl) (zh.ev rfl))) (bhas_any g sg Z N _ k (BkIs.below hK (Below.refl _ _)) hk) ?_
 rintro _ w2 ⟨rfl, hq1⟩
 refine WL.val (.bool false) rfl rfl rfl (fun za zC zh zk => wp_not rfl (zh.ev rfl) zk) ?_
 refine WL.nil (WE.next ?_)
 refine WC.condF rfl rfl ?_
 refine WC.skip (WE.next (WC.seq (WC.region (WL.mv rfl rfl rfl rfl rfl ?_))))
 refine WL.val _ rfl rfl rfl (fun za zC zh zk => nilCheck_ rfl (zh.ev rfl) zk) ?_
 refine WL.val _ rfl rfl rfl (fun za zC zh zk => fld_70_1 rfl (zh.ev rfl) zk) ?_
 have hc3 := bkeeps hq1 _ _ hb.c1
 refine WL.val _ rfl rfl rfl (fun za zC zh zk => ld_68 rfl (zh.ev rfl) hc3 zk) ?_
 refine WL.mv rfl rfl rfl rfl rfl ?_
 refine WL.val _ rfl rfl rfl (fun za zC zh zk => ix_68 (k := k) rfl (zh.ev rfl) rfl (zh.ev rfl) (by first | omega | (simp; omega)) zk) ?_
 refine WL.val _ rfl rfl rfl (fun za zC zh zk => fld_83_0 rfl (zh.ev rfl) zk) ?_
 refine WL.val _ rfl rfl rfl (fun za zC zh zk => fld_81_0 rfl (zh.ev rfl) zk) ?_
 refine WL.val _ rfl rfl rfl (fun za zC zh zk => ld_3 rfl (zh.ev rfl) (bkeeps hq1 _ _ (hc9 k (by first | omega | (simp; omega))).1) zk) ?_
 refine WL.asg rfl rfl rfl rfl rfl (WL.nil (WE.next (WC.ret (WE.ret1 rfl rfl ?_))))
 exact ⟨_, rfl, by rw [(hw.tell k (by omega)).1], hq1⟩
set_option maxRecDepth 100000 in
theorem bground_any (g : Nat) (sg : Value) (Z : Nat → Prop) (N : List En) (w : World) (k : Nat) (hK : BkIs w g sg Z N) (hk : k < N.length) :
  Calls Try.prog 16 #[.pointer (some ⟨g, 0, none⟩), .int .i64 (((k : Nat) : Int))] w (Ret fun v' w' => v' = .bool (tmE N k).gnd ∧ Below w.heap.size w w') := by
 have h := hK
 obtain ⟨S9, m, la, lc, L, R, hb, hw, hz, hl⟩ := h
 have hn := hw.len
 obtain ⟨b9, A9, C9, rfl, ho9, hc9⟩ := hb.opn (by omega)
 refine Calls.walk (l := [.pointer (some ⟨g, 0, none⟩), .int .i64 (((k : Nat) : Int))]) Try.func16 rfl (by kernel_rfl) ?_
 refine WC.sub (K' := [(0, .pointer (some ⟨g, 0, none⟩)), (1, .int .i64 (((k : Nat) : Int)))]) ⟨rfl, rfl, trivial⟩ ?_
 refine WC.seq (WC.region (WL.asg rfl rfl rfl rfl rfl (WL.nil (WE.next (WC.seq ?_)))))
 refine WC.opt [(true, .val (.pointer (some ⟨g, 0, none⟩))), (true, .val (.int .i64 (((k : Nat) : Int)))), (true, .val (.bool true)), (true, .val (.bool true)), ((true && true), .val (.pointer (some ⟨g, 0, none⟩))), ((true && true), .val (.pointer (some ⟨g, 0, none⟩))), ((true && true), .val (.pointer (some ⟨g, 1, none⟩))), ((true && true), .val (.slice ((some ⟨b9, 0, none⟩)) L.length lc)), ((true && true), .val (.int .i64 (((k : Nat) : Int)))), ((true && true), .val (.pointer (some ⟨b9, 0 + k * 5, none⟩))), ((true && true), .val (.pointer (some ⟨b9, 0 + k * 5, none⟩))), ((true && true), .val (.pointer (some ⟨b9, 0 + k * 5 + 1, none⟩))), ((true && true), .val (.bool ((xget L k).gr))), (true, .val (.bool ((xget L k).gr))), (true, .val (.bool ((xget L k).gr)))] [(0, .pointer (some ⟨g, 0, none⟩)), (1, .int .i64 (((k : Nat) : Int)))] ⟨rfl, rfl, trivial⟩ (by kernel_rfl) (by kernel_rfl) (by kernel_rfl) ?_ ?_
 ·refine ⟨⟨true, .none rfl, fun h w => optUndef h, fun zβ za zw zc => ?_⟩, ?_⟩
  ·exact wp_move rfl (zc.kn.ev rfl) ⟨_, rfl, Below.refl _ _, optDef zβ rfl⟩
  refine ⟨⟨true, .none rfl, fun h w => optUndef h, fun zβ za zw zc => ?_⟩, ?_⟩
  ·exact wp_move rfl (zc.kn.ev rfl) ⟨_, rfl, Below.refl _ _, optDef zβ rfl⟩
  refine ⟨⟨true, .none rfl, fun h w => optUndef h, fun zβ za zw zc => ?_⟩, ?_⟩
  ·exact wp_call (by kernel_rfl) rfl (hv2 ((evt za 5).trans (optVal (zc.dep 0 5 (by kernel_rfl)) rfl rfl)) ((evt za 6).trans (optVal (zc.dep 1 6 (by kernel_rfl)) rfl rfl))) (bhas_any g sg Z N _ k (BkIs.below hK zc.below) hk) (fun v w' h => ⟨v, rfl, h.2, optDef zβ h.1⟩)
  refine ⟨⟨true, .none rfl, fun h w => optUndef h, fun zβ za zw zc => ?_⟩, ?_⟩
  ·exact wp_move rfl ((evt za 7).trans (optVal (zc.dep 2 7 (by kernel_rfl)) rfl rfl)) ⟨_, rfl, Below.refl _ _, optDef zβ rfl⟩
  refine ⟨⟨_, .yes (d := true) rfl (fun v w h => h), fun h w => optUndef h, fun zβ za zw zc => ?_⟩, ?_⟩
  ·exact wp_move rfl (zc.kn.ev rfl) ⟨_, rfl, Below.refl _ _, optDef zβ rfl⟩
  refine ⟨⟨_, .yes (d := true) rfl (fun v w h => h), fun h w => optUndef h, fun zβ za zw zc => ?_⟩, ?_⟩
  ·exact nilCheck_ rfl ((evt za 9).trans (optVal (zc.dep 4 9 (by kernel_rfl)) rfl rfl)) ⟨_, rfl, Below.refl _ _, optDef zβ rfl⟩
  refine ⟨⟨_, .yes (d := true) rfl (fun v w h => h), fun h w => optUndef h, fun zβ za zw zc => ?_⟩, ?_⟩
  ·exact fld_70_1 rfl ((evt za 10).trans (optVal (zc.dep 5 10 (by kernel_rfl)) rfl rfl)) ⟨_, rfl, Below.refl _ _, optDef zβ rfl⟩
  refine ⟨⟨_, .yes (d := true) rfl (fun v w h => h), fun h w => optUndef h, fun zβ za zw zc => ?_⟩, ?_⟩
  ·exact ld_68 rfl ((evt za 11).trans (optVal (zc.dep 6 11 (by kernel_rfl)) rfl rfl)) (bkeeps zc.below _ _ hb.c1) ⟨_, rfl, Below.refl _ _, optDef zβ rfl⟩
  refine ⟨⟨_, .yes (d := true) rfl (fun v w h => h), fun h w => optUndef h, fun zβ za zw zc => ?_⟩, ?_⟩
  ·exact wp_move rfl (zc.kn.ev rfl) ⟨_, rfl, Below.refl _ _, optDef zβ rfl⟩
  refine ⟨⟨_, .yes (d := true) rfl (fun v w h => h), fun h w => optUndef h, fun zβ za zw zc => ?_⟩, ?_⟩
  ·exact ix_68 (k := k) rfl ((evt za 12).trans (optVal (zc.dep 7 12 (by kernel_rfl)) rfl rfl)) rfl ((evt za 13).trans (optVal (zc.dep 8 13 (by kernel_rfl)) rfl rfl)) (by first | omega | (have zz := zβ; simp only [Bool.and_eq_true, Bool.or_eq_true, Bool.true_and, Bool.not_eq_true', Bool.or_eq_false_iff, Bool.and_eq_false_iff, beq_eq_false_iff_ne, ne_eq, beq_iff_eq, decide_eq_true_eq, decide_eq_false_iff_not, bne_iff_ne, bne_eq_false_iff_eq] at zz; omega)) ⟨_, rfl, Below.refl _ _, optDef zβ rfl⟩
  refine ⟨⟨_, .yes (d := true) rfl (fun v w h => h), fun h w => optUndef h, fun zβ za zw zc => ?_⟩, ?_⟩
  ·exact fld_83_0 rfl ((evt za 14).trans (optVal (zc.dep 9 14 (by kernel_rfl)) rfl rfl)) ⟨_, rfl, Below.refl _ _, optDef zβ rfl⟩
  refine ⟨⟨_, .yes (d := true) rfl (fun v w h => h), fun h w => optUndef h, fun zβ za zw zc => ?_⟩, ?_⟩
  ·exact fld_81_1 rfl ((evt za 15).trans (optVal (zc.dep 10 15 (by kernel_rfl)) rfl rfl)) ⟨_, rfl, Below.refl _ _, optDef zβ rfl⟩
  refine ⟨⟨_, .yes (d := true) rfl (fun v w h => h), fun h w => optUndef h, fun zβ za zw zc => ?_⟩, ?_⟩
  ·exact ld_4 rfl ((evt za 16).trans (optVal (zc.dep 11 16 (by kernel_rfl)) rfl rfl)) (bkeeps zc.below _ _ (hc9 k (by first | omega | (have zz := zβ; simp only [Bool.and_eq_true, Bool.or_eq_true, Bool.true_and, Bool.not_eq_true', Bool.or_eq_false_iff, Bool.and_eq_false_iff, beq_eq_false_iff_ne, ne_eq, beq_iff_eq, decide_eq_true_eq, decide_eq_false_iff_not, bne_iff_ne, bne_eq_false_iff_eq] at zz; omega))).2.1) ⟨_, rfl, Below.refl _ _, optDef zβ rfl⟩
  refine ⟨⟨true, .none rfl, fun h w => optUndef h, fun zβ za zw zc => ?_⟩, ?_⟩
  ·exact wp_pickT rfl ((evt za 8).trans (optVal (zc.dep 3 8 (by kernel_rfl)) rfl rfl)) ((evt za 17).trans (optVal (zc.dep 12 17 (by kernel_rfl)) rfl rfl)) ⟨_, rfl, Below.refl _ _, optDef zβ rfl⟩
  refine ⟨⟨true, .none rfl, fun h w => optUndef h, fun zβ za zw zc => ?_⟩, ?_⟩
  ·exact wp_assign rfl ((evt za 18).trans (optVal (zc.dep 13 18 (by kernel_rfl)) rfl rfl)) ⟨_, rfl, Below.refl _ _, optDef zβ rfl⟩
  exact trivial
 ·intro za w1 zh hb2 zu
  have zh := zh.cons (d := 4) (v := .bool ((xget L k).gr)) (optVal (zu 14 4 (by kernel_rfl)) rfl rfl)
  clear zu
  refine WE.go zh ?_
  refine WE.next (WC.ret (WE.ret1 rfl rfl ?_))
  exact ⟨_, rfl, congrArg Value.bool (by rw [← (hw.tell k (by omega)).2]), hb2⟩
end Go.Proofs.Ytbohlpfndiiimaa

/- A term is told back, or found: the program. -/
namespace Go.Proofs.Ytbohlpfndiiimaa
open Go.RowKit Go
set_option linter.unusedVariables false
set_option linter.unusedSimpArgs false
theorem map_take_snoc {l : List Nat} {N : List En} {k : Nat} (h : k < l.length) : (l.take k).map (tmE N) ++ [tmE N (aget l k)] = (l.take (k + 1)).map (tmE N) := by
 rw [List.take_succ_eq_append_getElem h, List.map_append, aget_lt h]; rfl
theorem tm_args {N : List En} (h : BOk N) {n k : Nat} (hn : n < N.length) (hk : k < (eget N n).args.length) : aget (eget N n).args k < n ∧ (tmE N (aget (eget N n).args k)).size ≤ (tmE N n).size := by
 have ha := h.args n hn _ (aget_mem hk)
 refine ⟨ha, ?_⟩
 have e := tmE_eq h hn
 have z := T.size_le_sizeL (l := (eget N n).args.map (tmE N)) (List.mem_map.2 ⟨_, aget_mem hk, rfl⟩)
 rw [e, T.size]; omega
/-- All symbols fit. -/
def FnI (N : List En) : Prop := ∀ i, i < N.length → I64 (eget N i).fn
set_option maxRecDepth 100000 in
theorem bget_any (g : Nat) (sg : Value) (Z : Nat → Prop) (N : List En) (hNl : N.length ≤ 1048576) (hF : FnI N) (n : Nat) : ∀ (w : World), n < N.length → (tmE N n).size ≤ 4294967296 → BkIs w g sg Z N →
  Calls Try.prog 34 #[.pointer (some ⟨g, 0, none⟩), .int .i64 (n : Int)] w (Ret fun v' w' => NewT w w' (tmE N n) v' ∧ Below w.heap.size w w') := by
 induction n using Nat.strongRecOn with
 | _ n ih => ?_
 intro w hn0 hsz hK
 have h := hK
 obtain ⟨S9, m, la, lc, L, R, hb, hw, hz, hl⟩ := h
 have hn := hw.len
 have hok := hw.ok
 have hen := hw.at_ (i := n) (by omega)
 have etm := tmE_eq hok hn0
 have hsl : (eget N n).args.length ≤ (tmE N n).size := by
  rw [etm, T.size]; have z := len_le_sizeL ((eget N n).args.map (tmE N)); rw [List.length_map] at z; omega
 obtain ⟨b9, A9, C9, rfl, ho9, hc9⟩ := hb.opn (by omega)
 have hc9n := hc9 n (by omega)
 rw [hen] at hc9n
 obtain ⟨xb, xo, hxa, hxc⟩ := InRow.openN hc9n.2.2.2.2.2
 have hf := hF n hn0
 refine Calls.walk (l := [.pointer (some ⟨g, 0, none⟩), .int .i64 (((n : Nat) : Int))]) Try.func34 rfl (by kernel_rfl) ?_
 refine WC.sub (K' := [(0, .pointer (some ⟨g, 0, none⟩)), (1, .int .i64 (((n : Nat) : Int)))]) ⟨rfl, rfl, trivial⟩ ?_
 refine WC.seq (WC.region ?_)
 refine WL.step (post := NewBlk w 35 #[.int .i64 0, .slice none 0 0]) rfl rfl rfl (fun za zC zh zk => alloc_35 rfl (zk _ _ (newBlk _ _ _))) ?_
 rintro _ w1 ⟨g2, rfl, hg3, hB4, hb5, hz6⟩
 have hl7 : w.heap.size ≤ g2 := by omega
 refine WL.nil (WE.next (WC.seq (WC.region (WL.mv rfl rfl rfl rfl rfl ?_))))
 refine WL.val _ rfl rfl rfl (fun za zC zh zk => nilCheck_ rfl (zh.ev rfl) zk) ?_
 refine WL.val _ rfl rfl rfl (fun za zC zh zk => fld_70_1 rfl (zh.ev rfl) zk) ?_
 have hc8 := bkeeps hb5 _ _ hb.c1
 refine WL.val _ rfl rfl rfl (fun za zC zh zk => ld_68 rfl (zh.ev rfl) hc8 zk) ?_
 refine WL.mv rfl rfl rfl rfl rfl ?_
 refine WL.val _ rfl rfl rfl (fun za zC zh zk => ix_68 (k := n) rfl (zh.ev rfl) rfl (zh.ev rfl) (by first | omega | (simp; omega)) zk) ?_
 have hc9 := bkeeps hb5 _ _ hc9n.1
 have hc10 := bkeeps hb5 _ _ hc9n.2.1
 have hc11 := bkeeps hb5 _ _ hc9n.2.2.1
 have hc12 := bkeeps hb5 _ _ hc9n.2.2.2.1
 have hc13 := bkeeps hb5 _ _ hc9n.2.2.2.2.1
 refine WL.val _ rfl rfl rfl (fun za zC zh zk => ld_83 rfl (zh.ev rfl) hc9 hc10 hc11 hc12 hc13 zk) ?_
 refine WL.step (post := NewBlk w1 83 #[.int .i64 0, .bool false, .int .i64 0, .slice none 0 0, .slice none 0 0]) rfl rfl rfl (fun za zC zh zk => alloc_83 rfl (zk _ _ (newBlk _ _ _))) ?_
 rintro _ w14 ⟨g15, rfl, hg16, hB17, hb18, hz19⟩
 have hl20 : g2 < g15 := by have z1 := hB4.lt; omega
 have hl21 : w.heap.size ≤ g15 := by have z2 := (hb5).size; omega
 refine WL.step (post := fun _ w' => Upd g15 w14 w' ∧ Blk w' g15 83 #[.int .i64 ((((xget L n).sz : Nat) : Int)), .bool ((xget L n).gr), .int .i64 ((eget N n).fn), .slice ((A9 n)) ((eget N n).args.length) ((C9 n)), .slice ((xget L n).ua) ((xget L n).un) ((xget L n).uc)]) rfl rfl rfl (fun za zC zh zk => st_83 rfl (zh.ev rfl) (zh.ev rfl) rfl rfl rfl rfl rfl hB17 (by first | decide | simp) (fun v => zk v _ ⟨((((Upd.at_ _ _ _ _).trans (Upd.at_ _ _ _ _)).trans (Upd.at_ _ _ _ _)).trans (Upd.at_ _ _ _ _)).trans (Upd.at_ _ _ _ _), ((((hB17.set_ 0 _).set_ 1 _).set_ 2 _).set_ 3 _).set_ 4 _⟩)) ?_
 rintro v25 w22 ⟨hu23, hB24⟩
 have hb26 : Below w.heap.size w w14 := (bstep hb5 hb18)
 have hb27 := upd_below hb26 hu23 (by omega)
 have hB28 := hB4.below hb18
 have hB29 := upd_blk hB28 hu23 (by omega)
 refine WL.nil (WE.next (WC.seq (WC.region ?_)))
 refine WL.val _ rfl rfl rfl (fun za zC zh zk => fld_83_1 rfl (zh.ev rfl) zk) ?_
 refine WL.val _ rfl rfl rfl (fun za zC zh zk => ld_3 rfl (zh.ev rfl) ((hB24.cell 2).trans rfl) zk) ?_
 refine WL.val (.agg #[.int .i64 ((eget N n).fn), .slice none 0 0]) rfl rfl rfl (fun za zC zh zk => build_35_0 rfl (zh.ev rfl) zk) ?_
 refine WL.step (post := NewBlk w22 35 #[.int .i64 0, .slice none 0 0]) rfl rfl rfl (fun za zC zh zk => alloc_35 rfl (zk _ _ (newBlk _ _ _))) ?_
 rintro _ w30 ⟨g31, rfl, hg32, hB33, hb34, hz35⟩
 have hl36 : g2 < g31 := by have z1 := hB29.lt; omega
 have hl37 : g15 < g31 := by have z1 := hB24.lt; omega
 have hl38 : w.heap.size ≤ g31 := by have z2 := (hb27).size; omega
 refine WL.step (post := fun _ w' => Upd g31 w30 w' ∧ Blk w' g31 35 #[.int .i64 ((eget N n).fn), .slice none 0 0]) rfl rfl rfl (fun za zC zh zk => st_35 rfl (zh.ev rfl) (zh.ev rfl) rfl rfl hB33 (by first | decide | simp) (fun v => zk v _ ⟨(Upd.at_ _ _ _ _).trans (Upd.at_ _ _ _ _), (hB33.set_ 0 _).set_ 1 _⟩)) ?_
 rintro v42 w39 ⟨hu40, hB41⟩
 have hb43 : Below w.heap.size w w30 := (bstep hb27 hb34)
 have hb44 := upd_below hb43 hu40 (by omega)
 have hB45 := hB29.below hb34
 have hB46 := upd_blk hB45 hu40 (by omega)
 have hB47 := hB24.below hb34
 have hB48 := upd_blk hB47 hu40 (by omega)
 refine WL.nil (WE.next (WC.seq (WC.seq (WC.region ?_))))
 refine WL.val _ rfl rfl rfl (fun za zC zh zk => fld_83_2 rfl (zh.ev rfl) zk) ?_
 refine WL.val _ rfl rfl rfl (fun za zC zh zk => ld_31 rfl (zh.ev rfl) ((hB48.cell 3).trans rfl) zk) ?_
 refine WL.val (.int .i64 ((((eget N n).args.length : Nat) : Int))) rfl rfl rfl (fun za zC zh zk => len_31 rfl (zh.ev rfl) zk) ?_
 refine WL.mv rfl rfl rfl rfl rfl (WL.nil (WE.next (WC.block ?_)))
 have hl49 : g2 < w39.heap.size := by have z1 := hB46.lt; omega
 have hl50 : g15 < w39.heap.size := by have z1 := hB48.lt; omega
 have hl51 : g31 < w39.heap.size := by have z1 := hB41.lt; omega
 have hl52 : w.heap.size ≤ w39.heap.size := (hb44).size
 have hR53 : RowE eltT w39 w39.heap.size 35 none 0 0 [] := RowE.nil
 refine WC.loop (X := Option Addr × Nat × Nat) (fun x => (eget N n).args.length - x.2.2) (fun x => [(0, .pointer (some ⟨g, 0, none⟩)), (1, .int .i64 (((n : Nat) : Int))), (4, .pointer (some ⟨g2, 0, none⟩)), (5, .pointer (some ⟨g15, 0, none⟩)), (6, .pointer (some ⟨g31, 0, none⟩)), (20, .slice ((A9 n)) ((eget N n).args.length) ((C9 n))), (21, .int .i64 ((((eget N n).args.length : Nat) : Int))), (22, .int .i64 (((x.2.2 : Nat) : Int)))]) (fun x w54 => x.2.2 ≤ (eget N n).args.length ∧ w39.heap.size ≤ (w54).heap.size ∧ Below w.heap.size w w54 ∧ Blk w54 g2 35 #[.int .i64 0, .slice none 0 0] ∧ Blk w54 g15 83 #[.int .i64 ((((xget L n).sz : Nat) : Int)), .bool ((xget L n).gr), .int .i64 ((eget N n).fn), .slice ((A9 n)) ((eget N n).args.length) ((C9 n)), .slice ((xget L n).ua) ((xget L n).un) ((xget L n).uc)] ∧ Blk w54 g31 35 #[.int .i64 ((eget N n).fn), .slice x.1 x.2.2 x.2.1] ∧ RowE eltT (w54) w39.heap.size 35 x.1 x.2.1 x.2.2 (((eget N n).args.take x.2.2).map (tmE N))) ((none, 0, 0)) ⟨rfl, rfl, rfl, rfl, rfl, rfl, rfl, rfl, trivial⟩ ?_ ?_
 ·exact ⟨Nat.zero_le _, Nat.le_refl _, hb44, hB46, hB48, hB41, (by simpa using hR53)⟩
 ·rintro x w54 ⟨hk, hBw, hb55, hB56, hB57, hB58, ho59⟩
  refine WC.seq (WC.region ?_)
  refine WL.val (.bool ((decide ((((x.2.2 : Nat) : Int) : Int) < ((((eget N n).args.length : Nat) : Int) : Int))))) rfl rfl rfl (fun za zC zh zk => lss_3 rfl (zh.ev rfl) (zh.ev rfl) zk) ?_
  refine WL.nil (WE.next (WC.seq ?_))
  refine WC.cond rfl (fun h60 => ?_) (fun h60 => ?_)
  ·have h60 : (((x.2.2 : Nat) : Int) : Int) < ((((eget N n).args.length : Nat) : Int) : Int) := by simpa using h60
   refine WC.skip (WE.next (WC.seq (WC.block (WC.seq (WC.region ?_)))))
   refine WL.val _ rfl rfl rfl (fun za zC zh zk => ix_31 (k := x.2.2) rfl (zh.ev rfl) (hxa x.2.2 (by omega)) (zh.ev rfl) (by first | omega | (simp; omega)) zk) ?_
   refine WL.val _ rfl rfl rfl (fun za zC zh zk => ld_3 rfl (zh.ev rfl) (bkeeps hb55 _ _ (hxc x.2.2 (by omega))) zk) ?_
   refine WL.asg rfl rfl rfl rfl rfl (WL.nil (WE.next ?_))
   have hta := tm_args hok hn0 (show x.2.2 < (eget N n).args.length by omega)
   have hSlt : ∀ b, (fun b => b = g31 ∨ (Value.slice x.1 x.2.2 x.2.1).ownBlock = some b) b → b < w54.heap.size := fun b h => h.elim (fun e => e ▸ hB58.lt) (fun h => (ho59.lt b h).2)
   have hSlo : ∀ b, (fun b => b = g31 ∨ (Value.slice x.1 x.2.2 x.2.1).ownBlock = some b) b → b = g31 ∨ (w39.heap.size ≤ b ∧ b < w54.heap.size) := fun b h => h.imp id (fun h => ho59.lt b h)
   have hBW : w39.heap.size ≤ w54.heap.size := by have z1 := hBw; omega
   have hlL : x.2.2 = ((((eget N n).args.take x.2.2).map (tmE N))).length := ho59.len
   refine WC.tail2 (S := ((fun b => b = g31 ∨ (Value.slice x.1 x.2.2 x.2.1).ownBlock = some b))) [(true, .val (.pointer (some ⟨g31, 1, none⟩))), (true, .val (.slice x.1 x.2.2 x.2.1)), (true, .val (.pointer (some ⟨g, 0, none⟩))), (true, .val (.int .i64 ((((aget (eget N n).args x.2.2) : Nat) : Int)))), (true, .mem (fun v w' => NewT w54 w' ((tmE N (aget (eget N n).args x.2.2))) v) (fun v w w' hc h => InT.chg h hc (fun b hb hs => by have z := hSlt b hs; omega))), (true, .mem (fun v w' => OneRow eltT w54 35 ((tmE N (aget (eget N n).args x.2.2))) v w') (fun v w w' hc h => h.chg hc hSlt)), (true, .val undef), (true, .val (.pointer (some ⟨g31, 1, none⟩))), (true, .val undef)] [(0, .pointer (some ⟨g, 0, none⟩)), (1, .int .i64 (((n : Nat) : Int))), (4, .pointer (some ⟨g2, 0, none⟩)), (5, .pointer (some ⟨g15, 0, none⟩)), (6, .pointer (some ⟨g31, 0, none⟩)), (8, .int .i64 ((((aget (eget N n).args x.2.2) : Nat) : Int))), (20, .slice ((A9 n)) ((eget N n).args.length) ((C9 n))), (21, .int .i64 ((((eget N n).args.length : Nat) : Int))), (22, .int .i64 (((x.2.2 : Nat) : Int))), (23, .bool ((decide ((((x.2.2 : Nat) : Int) : Int) < ((((eget N n).args.length : Nat) : Int) : Int)))))] 6 8 ((x.2.2 + 1)) 32 (fun ra rc wz => RowE eltT wz w39.heap.size 35 ra rc (x.2.2 + 1) ((((eget N n).args.take x.2.2).map (tmE N) ++ [(tmE N (aget (eget N n).args x.2.2))])) ∧ Blk wz g31 35 #[.int .i64 ((eget N n).fn), .slice x.1 x.2.2 x.2.1]) (fun ra rc wz => RowE eltT wz w39.heap.size 35 ra rc (x.2.2 + 1) ((((eget N n).args.take x.2.2).map (tmE N) ++ [(tmE N (aget (eget N n).args x.2.2))])) ∧ Blk wz g31 35 #[.int .i64 ((eget N n).fn), .slice ra ((x.2.2 + 1)) rc]) (by decide) (fun ra rc w w' hb h => ⟨h.1.below hb, h.2.below hb⟩) (fun ra rc w w' hb h => ⟨h.1.below hb, h.2.below hb⟩) ⟨rfl, rfl, rfl, rfl, rfl, rfl, rfl, rfl, rfl, rfl, trivial⟩ (by kernel_rfl) (by kernel_rfl) (by kernel_rfl) (by kernel_rfl) (by kernel_rfl) ?_ ?_
   ·refine ⟨.inl ⟨rfl, true, .none rfl, (fun gg b h => by cases h), fun h w => optUndef h, fun zβ za zw zc => ?_⟩, ?_⟩
    ·exact fld_35_1 rfl (zc.kn.ev rfl) ⟨_, rfl, Below.refl _ _, optDef zβ rfl⟩
    refine ⟨.inl ⟨rfl, true, .none rfl, (fun gg b h => by cases h), fun h w => optUndef h, fun zβ za zw zc => ?_⟩, ?_⟩
    ·exact ld_25 rfl ((evt za 26).trans (optSVal (zc.dep 0 26 (by kernel_rfl) (by decide)) rfl rfl)) (bkeeps (zc.early (by kernel_rfl)) _ _ ((hB58.cell 1).trans rfl)) ⟨_, rfl, Below.refl _ _, optDef zβ rfl⟩
    refine ⟨.inl ⟨rfl, true, .none rfl, (fun gg b h => by cases h), fun h w => optUndef h, fun zβ za zw zc => ?_⟩, ?_⟩
    ·exact wp_move rfl (zc.kn.ev rfl) ⟨_, rfl, Below.refl _ _, optDef zβ rfl⟩
    refine ⟨.inl ⟨rfl, true, .none rfl, (fun gg b h => by cases h), fun h w => optUndef h, fun zβ za zw zc => ?_⟩, ?_⟩
    ·exact wp_move rfl (zc.kn.ev rfl) ⟨_, rfl, Below.refl _ _, optDef zβ rfl⟩
    refine ⟨.inl ⟨rfl, true, .none rfl, (fun gg b h => by cases h), fun h w => optUndef h, fun zβ za zw zc => ?_⟩, ?_⟩
    ·exact wp_call (by kernel_rfl) rfl (hv2 ((evt za 28).trans (optSVal (zc.dep 2 28 (by kernel_rfl) (by decide)) rfl rfl)) ((evt za 29).trans (optSVal (zc.dep 3 29 (by kernel_rfl) (by decide)) rfl rfl))) (ih _ hta.1 _ (by omega) (by omega) (BkIs.below hK (bstep hb55 (zc.early (by kernel_rfl))))) (fun v w' h => ⟨v, rfl, h.2, optDef zβ (InT.mono (fun b hb _ => Nat.le_trans (zc.early (by kernel_rfl)).size hb) h.1)⟩)
    refine ⟨.inl ⟨rfl, true, .none rfl, (fun gg b h => by cases h), fun h w => optUndef h, fun zβ za zw zc => ?_⟩, ?_⟩
    ·have zv := (optSMem (zc.dep 4 30 (by kernel_rfl) (by decide)) rfl rfl)
     obtain ⟨_, a1, c1, e1, _⟩ := zv.form
     rw [e1] at zv
     exact row_25_1 rfl ((evt za 30).trans e1) ⟨_, rfl, balloc _ _, optDef zβ ⟨_, _, rfl, zc.chg.size, Blk.new' rfl, _, _, rfl, zv.below (balloc _ _)⟩⟩
    refine ⟨.inr (.inl ⟨rfl, rfl, fun za zw zc => ?_⟩), ?_⟩
    ·obtain ⟨g1, cs, e1, hg1, hB1, hin⟩ := (optSMem (zc.dep 5 31 (by kernel_rfl) (by decide)) rfl rfl)
     exact wp_appE (E := eltT) (size := 2) (bytes := 32) (z := .agg #[.int .i64 0, .slice none 0 0]) rfl Try.underlying25 (by kernel_rfl) rfl (by decide) rfl ((evt za 27).trans (optSVal (zc.dep 1 27 (by kernel_rfl) (by decide)) rfl rfl)) ((evt za 31).trans e1) (ho59.below zc.below) hB1 (eltT.mono (fun b hb _ => ⟨by omega, fun e => by have z := (ho59.lt b e).2; omega⟩) hin) (by omega) (by omega) (by have z := zc.below.size; omega) (fun ra rc w' h1 h2 _ => ⟨ra, rc, rfl, ⟨h1, chg_blk (hB58.below zc.below) h2 (fun e => by have z := (ho59.lt _ e).1; omega)⟩, h2.mono (fun b hb => .inr hb)⟩)
    refine ⟨.inl ⟨rfl, true, .none rfl, (fun gg b h => by cases h), fun h w => optUndef h, fun zβ za zw zc => ?_⟩, ?_⟩
    ·exact fld_35_1 rfl (zc.kn.ev rfl) ⟨_, rfl, Below.refl _ _, optDef zβ rfl⟩
    refine ⟨.inr (.inr ⟨rfl, rfl, 32, by kernel_rfl, fun za zw ra rc zk zd zv zg => ?_⟩), ?_⟩
    ·exact st_25 rfl ((evt za 33).trans (optSVal (zd 7 33 (by kernel_rfl) (by decide)) rfl rfl)) ((evt za 32).trans zv) zg.2 (by first | decide | simp) (fun v => ⟨v, rfl, ⟨zg.1.upd (Upd.at_ _ _ _ _) (by omega), zg.2.set_ 1 _⟩, .ofUpd (Upd.at_ _ _ _ _) (.inl rfl)⟩)
    exact trivial
   ·intro za w61 ra64 rc65 zh zv hG62 hc63 zu
    have hb66 := chg_below hb55 hc63 (fun b hb => (fun h => by rcases hSlo _ h with h | h <;> omega))
    have hB67 := chg_blk hB56 hc63 (fun h => by rcases hSlo _ h with h | h <;> omega)
    have hB68 := chg_blk hB57 hc63 (fun h => by rcases hSlo _ h with h | h <;> omega)
    clear zu
    refine WE.go zh ?_
    refine WE.blockNormal (WE.next (WC.region ?_))
    refine WL.val (.int .i64 ((((x.2.2 + 1) : Nat) : Int))) rfl rfl rfl (fun za zC zh zk => addb_3 rfl (zh.ev rfl) (zh.ev rfl) (wrap_eq (by omega) (by omega) (by omega)) zk) ?_
    refine WL.mv rfl rfl rfl rfl rfl (WL.nil ?_)
    refine WE.round ((ra64, rc65, x.2.2 + 1)) ⟨rfl, rfl, rfl, rfl, rfl, rfl, rfl, rfl, trivial⟩ ?_ ?_
    ·exact ⟨by (try dsimp only at *); omega, (Nat.le_trans hBw hc63.size), hb66, hB67, hB68, hG62.2, (by rw [← map_take_snoc (by (try dsimp only at *); omega)]; exact hG62.1)⟩
    ·dsimp only; omega
  ·have h60 : ¬ ((((x.2.2 : Nat) : Int) : Int) < ((((eget N n).args.length : Nat) : Int) : Int)) := by simpa using h60
   refine WC.exit (WE.thenExit (WE.thenExit (WE.blockIs rfl (WE.next (WC.seq (WC.region ?_))))))
   refine WL.val _ rfl rfl rfl (fun za zC zh zk => ld_35 rfl (zh.ev rfl) ((hB58.cell 0).trans rfl) ((hB58.cell 1).trans rfl) zk) ?_
   refine WL.step (post := fun _ w' => Upd g2 w54 w' ∧ Blk w' g2 35 #[.int .i64 ((eget N n).fn), .slice x.1 x.2.2 x.2.1]) rfl rfl rfl (fun za zC zh zk => st_35 rfl (zh.ev rfl) (zh.ev rfl) rfl rfl hB56 (by first | decide | simp) (fun v => zk v _ ⟨(Upd.at_ _ _ _ _).trans (Upd.at_ _ _ _ _), (hB56.set_ 0 _).set_ 1 _⟩)) ?_
   rintro v72 w69 ⟨hu70, hB71⟩
   have hb73 := upd_below hb55 hu70 (by omega)
   have hB74 := upd_blk hB57 hu70 (by omega)
   have hB75 := upd_blk hB58 hu70 (by omega)
   have ho76 := ho59.upd hu70 (by omega)
   refine WL.nil (WE.next (WC.ret ?_))
   refine WE.retAny (v := .agg #[.int .i64 ((eget N n).fn), .slice x.1 x.2.2 x.2.1]) (fun za zh => ?_) ?_
   ·have z0 : za.tmps[4]?.getD undef = .pointer (some ⟨g2, 0, none⟩) := by rw [← Array.getD_eq_getD_getElem?]; exact zh.knows 4 _ rfl
    have y0 : w69.cell? ⟨g2, 0, none⟩ = some (.int .i64 ((eget N n).fn)) := ((hB71.cell 0).trans rfl)
    have y1 : w69.cell? ⟨g2, 1, none⟩ = some (.slice x.1 x.2.2 x.2.1) := ((hB71.cell 1).trans rfl)
    simp [results, Try.results34, z0, y0, y1, go_sem]
   ·refine ⟨_, rfl, ?_, hb73⟩
    have z := ho76
    rw [List.take_of_length_le (by omega)] at z
    rw [etm]
    exact newT_row hf z (by omega)
end Go.Proofs.Ytbohlpfndiiimaa

/- A term's number is found: the program. -/
namespace Go.Proofs.Ytbohlpfndiiimaa
open Go.RowKit Go
set_option linter.unusedVariables false
set_option linter.unusedSimpArgs false
theorem bfindL_snoc (t : T) (N : List En) : ∀ l : List T, T.bfindL (l ++ [t]) N = (T.bfindL l N).bind (fun q => (t.bfind N).map (fun n => q ++ [n]))
 | [] => by
  rw [List.nil_append, T.bfindL, T.bfindL]
  cases t.bfind N with
  | none => rfl
  | some n => simp [T.bfindL]
 | x :: r => by
  rw [List.cons_append, T.bfindL, bfindL_snoc t N r, T.bfindL]
  cases x.bfind N with
  | none => rfl
  | some n =>
   simp only [Option.bind_some]
   cases T.bfindL r N with
   | none => rfl
   | some q =>
    simp only [Option.map_some, Option.bind_some]
    cases t.bfind N with
    | none => rfl
    | some m => rfl
theorem bfindL_no (N : List En) : ∀ {l : List T} {t : T}, t ∈ l → t.bfind N = none → T.bfindL l N = none
 | x :: r, t, h, e => by
  rw [T.bfindL]
  rcases List.mem_cons.1 h with rfl | h
  ·rw [e]; rfl
  ·cases x.bfind N with
   | none => rfl
   | some n => rw [Option.bind_some, bfindL_no N h e]; rfl
structure FSt where
 k : Nat
 ra : Option Addr
 rc : Nat
 q : List Nat
set_option maxRecDepth 100000 in
theorem bfind_any (g : Nat) (sg : Value) (Z : Nat → Prop) (N : List En) (hNl : N.length ≤ 1048576) : ∀ (t : T) (w : World) (v : Value), t.size ≤ 4294967296 → IsT w t v → BkIs w g sg Z N →
  Calls Try.prog 12 #[.pointer (some ⟨g, 0, none⟩), v] w (Ret fun v' w' => v' = .tuple #[.int .i64 (((t.bfind N).getD 0 : Nat) : Int), .bool (t.bfind N).isSome] ∧ Below w.heap.size w w') := by
 refine T.ind (fun f l ih => ?_)
 intro w v hsz hv hK
 have h := hK
 obtain ⟨S9, m, la, lc, L, R, hb, hw, hz, hl⟩ := h
 have hok := hw.ok
 have hsz' := hsz
 rw [T.size] at hsz'
 have hlen := len_le_sizeL l
 obtain ⟨hf, a, c, rfl, hc, hm, hls⟩ := hv
 refine Calls.walk (l := [.pointer (some ⟨g, 0, none⟩), .agg #[.int .i64 f, .slice a l.length c]]) Try.func12 rfl (by kernel_rfl) ?_
 refine WC.sub (K' := [(0, .pointer (some ⟨g, 0, none⟩)), (1, .agg #[.int .i64 f, .slice a l.length c])]) ⟨rfl, rfl, trivial⟩ ?_
 refine WC.seq (WC.region ?_)
 refine WL.step (post := NewBlk w 35 #[.int .i64 f, .slice a l.length c]) rfl rfl rfl (fun za zC zh zk => box_35 rfl (zh.ev rfl) (zk _ _ (newBlk _ _ _))) ?_
 rintro _ w1 ⟨g2, rfl, hg3, hB4, hb5, hz6⟩
 have hl7 : w.heap.size ≤ g2 := by omega
 refine WL.asg rfl rfl rfl rfl rfl (WL.asg rfl rfl rfl rfl rfl (WL.nil (WE.next (WC.seq (WC.seq (WC.region (WL.mv rfl rfl rfl rfl rfl ?_)))))))
 refine WL.call rfl rfl rfl (fun za zh zC => wp_call (by kernel_rfl) rfl (hv1 (zh.ev rfl))) (bok_any g sg Z N _ (BkIs.below hK hb5)) ?_
 rintro _ w9 ⟨rfl, hq8⟩
 refine WL.val (.bool false) rfl rfl rfl (fun za zC zh zk => wp_not rfl (zh.ev rfl) zk) ?_
 refine WL.nil (WE.next ?_)
 refine WC.condF rfl rfl ?_
 refine WC.skip (WE.next (WC.seq (WC.region (WL.asg rfl rfl rfl rfl rfl (WL.nil (WE.next (WC.seq (WC.seq (WC.region ?_)))))))))
 refine WL.val _ rfl rfl rfl (fun za zC zh zk => fld_35_1 rfl (zh.ev rfl) zk) ?_
 have hB10 := hB4.below hq8
 refine WL.val _ rfl rfl rfl (fun za zC zh zk => ld_25 rfl (zh.ev rfl) ((hB10.cell 1).trans rfl) zk) ?_
 refine WL.val (.int .i64 (((l.length : Nat) : Int))) rfl rfl rfl (fun za zC zh zk => len_25 rfl (zh.ev rfl) zk) ?_
 refine WL.mv rfl rfl rfl rfl rfl (WL.nil (WE.next (WC.block ?_)))
 have hr0 : RowD eltN (fun _ => False) w9 3 none 0 0 ([]) := RowD.nil
 refine WC.loop (X := FSt) (fun x => l.length - x.k) (fun x => [(0, .pointer (some ⟨g, 0, none⟩)), (1, .agg #[.int .i64 f, .slice a l.length c]), (3, .pointer (some ⟨g2, 0, none⟩)), (6, .slice x.ra x.k x.rc), (15, .bool false), (17, .slice a l.length c), (18, .int .i64 (((l.length : Nat) : Int))), (19, .int .i64 (((x.k : Nat) : Int)))]) (fun x w11 => x.k ≤ l.length ∧ T.bfindL (l.take x.k) N = some x.q ∧ x.q.length = x.k ∧ (∀ b, obk x.ra x.k x.rc = some b → w.heap.size ≤ b) ∧ Below w.heap.size w w11 ∧ Blk w11 g2 35 #[.int .i64 f, .slice a l.length c] ∧ RowD eltN (fun _ => False) (w11) 3 x.ra x.rc x.k x.q) (⟨0, none, 0, []⟩) ⟨rfl, rfl, rfl, rfl, rfl, rfl, rfl, rfl, trivial⟩ ?_ ?_
 ·have hb12 : Below w.heap.size w w9 := (bstep hb5 hq8)
  exact ⟨Nat.zero_le _, rfl, rfl, (fun b e => nomatch e), hb12, hB10, hr0⟩
 ·rintro x w11 ⟨hkx, hqx, hql, hownx, hb13, hB14, ho15⟩
  refine WC.seq (WC.region ?_)
  refine WL.val (.bool ((decide ((((x.k : Nat) : Int) : Int) < (((l.length : Nat) : Int) : Int))))) rfl rfl rfl (fun za zC zh zk => lss_3 rfl (zh.ev rfl) (zh.ev rfl) zk) ?_
  refine WL.nil (WE.next (WC.seq ?_))
  refine WC.cond rfl (fun h16 => ?_) (fun h16 => ?_)
  ·have h16 : (((x.k : Nat) : Int) : Int) < (((l.length : Nat) : Int) : Int) := by simpa using h16
   refine WC.skip (WE.next (WC.seq (WC.block (WC.seq (WC.region ?_)))))
   obtain ⟨b17, o18, A19, C20, ha21, hc22⟩ := IsTs.open hls
   refine WL.val _ rfl rfl rfl (fun za zC zh zk => ix_25 (k := x.k) rfl (zh.ev rfl) (ha21 x.k (by first | omega | (simp; omega))) (zh.ev rfl) (by first | omega | (simp; omega)) zk) ?_
   refine WL.val _ rfl rfl rfl (fun za zC zh zk => ld_35 rfl (zh.ev rfl) (bkeeps hb13 _ _ (hc22 x.k (by first | omega | (simp; omega))).1) (bkeeps hb13 _ _ (hc22 x.k (by first | omega | (simp; omega))).2.1) zk) ?_
   refine WL.step (post := NewBlk w11 35 #[.int .i64 0, .slice none 0 0]) rfl rfl rfl (fun za zC zh zk => alloc_35 rfl (zk _ _ (newBlk _ _ _))) ?_
   rintro _ w23 ⟨g24, rfl, hg25, hB26, hb27, hz28⟩
   have hl29 : g2 < g24 := by have z1 := hB14.lt; omega
   have hl30 : w.heap.size ≤ g24 := by have z2 := (hb13).size; omega
   have hl31 : w11.heap.size ≤ g24 := by omega
   refine WL.step (post := fun _ w' => Upd g24 w23 w' ∧ Blk w' g24 35 #[.int .i64 ((tget l x.k).f), .slice ((A19 x.k)) ((tget l x.k).args.length) ((C20 x.k))]) rfl rfl rfl (fun za zC zh zk => st_35 rfl (zh.ev rfl) (zh.ev rfl) rfl rfl hB26 (by first | decide | simp) (fun v => zk v _ ⟨(Upd.at_ _ _ _ _).trans (Upd.at_ _ _ _ _), (hB26.set_ 0 _).set_ 1 _⟩)) ?_
   rintro v35 w32 ⟨hu33, hB34⟩
   have hb36 : Below w.heap.size w w23 := (bstep hb13 hb27)
   have hb37 := upd_below hb36 hu33 (by omega)
   have hb38 := upd_below hb27 hu33 (by omega)
   have hB39 := hB14.below hb27
   have hB40 := upd_blk hB39 hu33 (by omega)
   refine WL.nil (WE.next (WC.seq (WC.region (WL.mv rfl rfl rfl rfl rfl ?_))))
   refine WL.val _ rfl rfl rfl (fun za zC zh zk => ld_35 rfl (zh.ev rfl) ((hB34.cell 0).trans rfl) ((hB34.cell 1).trans rfl) zk) ?_
   refine WL.call rfl rfl rfl (fun za zh zC => wp_call (by kernel_rfl) rfl (hv2 (zh.ev rfl) (zh.ev rfl))) (ih (tget l x.k) (tget_mem (by omega)) _ _ (size_at (by omega) hsz) (IsT.below hb37 (hc22 x.k (by first | omega | (simp; omega))).2.2) (BkIs.below hK hb37)) ?_
   rintro _ w42 ⟨rfl, hq41⟩
   refine WL.mv rfl rfl rfl rfl rfl ?_
   refine WL.val (.int .i64 ((((((tget l x.k).bfind N).getD 0) : Nat) : Int))) rfl rfl rfl (fun za zC zh zk => ext2_0 rfl (zh.ev rfl) zk) ?_
   refine WL.val (.bool (((tget l x.k).bfind N).isSome)) rfl rfl rfl (fun za zC zh zk => ext2_1 rfl (zh.ev rfl) zk) ?_
   refine WL.asg rfl rfl rfl rfl rfl (WL.asg rfl rfl rfl rfl rfl (WL.nil (WE.next (WC.seq (WC.seq (WC.region (WL.mv rfl rfl rfl rfl rfl ?_)))))))
   refine WL.val (.bool (!((tget l x.k).bfind N).isSome)) rfl rfl rfl (fun za zC zh zk => wp_not rfl (zh.ev rfl) zk) ?_
   refine WL.nil (WE.next ?_)
   refine WC.cond rfl (fun h43 => ?_) (fun h43 => ?_)
   ·skip
    have hno9 : (tget l x.k).bfind N = none := by cases hq : (tget l x.k).bfind N with | none => rfl | some q => rw [hq] at h43; simp at h43
    have hno : T.bfindL l N = none := bfindL_no N (tget_mem (by omega)) hno9
    refine WC.seq (WC.region (WL.asg rfl rfl rfl rfl rfl (WL.asg rfl rfl rfl rfl rfl (WL.nil (WE.next (WC.ret (WE.thenRet (WE.blockRet (WE.thenRet (WE.thenRet (WE.blockRet (WE.thenRet (WE.ret2 rfl rfl rfl ?_)))))))))))))
    have hb44 : Below w.heap.size w w42 := (bstep hb37 hq41)
    exact ⟨_, rfl, by rw [T.bfind, hno]; rfl, hb44⟩
   ·skip
    obtain ⟨n9, hn9⟩ : ∃ n, (tget l x.k).bfind N = some n := by cases hq : (tget l x.k).bfind N with | none => rw [hq] at h43; simp at h43 | some q => exact ⟨q, rfl⟩
    refine WC.skip (WE.next (WC.region (WL.mv rfl rfl rfl rfl rfl (WL.mv rfl rfl rfl rfl rfl ?_))))
    refine WL.step (post := NewRow w42 3 #[.int .i64 ((((((tget l x.k).bfind N).getD 0) : Nat) : Int))] 1) rfl rfl rfl (fun za zC zh zk => row_31_1 rfl (zh.ev rfl) (zk _ _ (newRow _ _ _ _))) ?_
    rintro _ w45 ⟨g46, rfl, hg47, hB48, hb49, hz50⟩
    have hl51 : g2 < g46 := by have z1 := hB40.lt; have z2 := (hq41).size; omega
    have hl52 : g24 < g46 := by have z1 := hB34.lt; have z2 := (hq41).size; omega
    have hb53 : Below w.heap.size w w42 := (bstep hb37 hq41)
    have hl54 : w.heap.size ≤ g46 := by have z2 := (hb53).size; omega
    have hb55 : Below w11.heap.size w11 w42 := (bstep hb38 hq41)
    have hl56 : w11.heap.size ≤ g46 := by have z2 := (hb55).size; omega
    have hb58 : Below w11.heap.size w11 w45 := (bstep hb55 hb49)
    have ho57 := ho15.below hb58
    have hb59 : Below w.heap.size w w45 := (bstep hb13 hb58)
    have hB1n : Blk w45 g46 3 #[.int .i64 ((n9 : Nat) : Int)] := by have z := hB48; rw [hn9] at z; exact z
    have hwW := (hb59).size
    refine WL.step (post := fun v w' => ∃ ra rc, v = .slice ra (x.k + 1) rc ∧ RowD eltN (fun _ => False) w' 3 ra rc ((x.k + 1)) ((x.q ++ [n9])) ∧ Chg (fun b => obk x.ra x.k x.rc = some b) w45 w' ∧ ∀ b, obk ra ((x.k + 1)) rc = some b → w.heap.size ≤ b) rfl rfl rfl (fun za zC zh zk => wp_appD (E := eltN) (S2 := fun _ => False) (y := n9) (size := 1) (bytes := 8) (z := .int .i64 0) rfl Try.underlying31 (by kernel_rfl) rfl (by decide) rfl (zh.ev rfl) (zh.ev rfl) ho57 hB1n rfl (fun b q => q.elim) (by omega) (by omega) (fun ra rc w' h1 h2 h3 => zk _ _ ⟨ra, rc, rfl, h1.mono (fun b q _ => by rcases q.1 with q | q <;> exact q) (fun b q => q.elim), h2, fun b e => by rcases h3 b e with z | z; exact hownx b z; omega⟩)) ?_
    rintro _ w60 ⟨ra61, rc62, rfl, hr63, hc64, ho65⟩
    have hb66 := chg_below hb59 hc64 (fun b hb e => by have z := hownx b e; omega)
    have hb68 : Below w32.heap.size w32 w45 := (bstep hq41 hb49)
    have hB67 := hB40.below hb68
    have hB69 := chg_blk hB67 hc64 (fun e => (RowD.neBlk ho57 hB67 (by decide)) e)
    refine WL.asg rfl rfl rfl rfl rfl (WL.nil (WE.blockNormal (WE.next (WC.region ?_))))
    refine WL.val (.int .i64 ((((x.k + 1) : Nat) : Int))) rfl rfl rfl (fun za zC zh zk => addb_3 rfl (zh.ev rfl) (zh.ev rfl) (wrap_eq (by omega) (by omega) (by omega)) zk) ?_
    refine WL.mv rfl rfl rfl rfl rfl (WL.nil ?_)
    refine WE.round (⟨x.k + 1, ra61, rc62, x.q ++ [n9]⟩) ⟨rfl, rfl, rfl, rfl, rfl, rfl, rfl, rfl, trivial⟩ ?_ ?_
    ·exact ⟨(by (try dsimp only); omega), (by (try dsimp only); rw [List.take_succ_eq_append_getElem (by omega), ← tget_lt (show x.k < l.length by omega), bfindL_snoc, hqx, hn9]; rfl), (by simp; omega), ho65, hb66, hB69, hr63⟩
    ·(try dsimp only); omega
  ·have h16 : ¬ ((((x.k : Nat) : Int) : Int) < (((l.length : Nat) : Int) : Int)) := by simpa using h16
   refine WC.exit (WE.thenExit (WE.thenExit (WE.blockIs rfl (WE.next (WC.seq ?_)))))
   have hx1 : x.k = l.length := by omega
   rw [hx1, List.take_length] at hqx
   have hqs := bfindL_some hok hqx
   have hzo : EnOk (⟨f, x.q⟩ : En) := fun q hq => Nat.lt_of_lt_of_le (hqs.1 q hq) (Nat.le_trans hNl (by decide))
   have hko := fun (u : World) (hu : InRow eltN (fun b => obk x.ra x.k x.rc = some b) u x.q x.ra) => keyOf_any f x.q (by omega) (fun q hq => Nat.lt_of_lt_of_le (hqs.1 q hq) (Nat.le_trans hNl (by decide))) _ u x.ra x.rc hu
   rw [hql] at hko
   have hro := RowD.inRowOwn ho15
   have hc70 := bkeeps hb13 _ _ hb.c2
   refine WC.opt [(true, .val (.pointer (some ⟨g, 0, none⟩))), (true, .val (.pointer (some ⟨g, 0, none⟩))), (true, .val (.pointer (some ⟨g, 2, none⟩))), (true, .val (.map ((some m)))), (true, .val (.pointer (some ⟨g2, 0, none⟩))), (true, .val (.int .i64 f)), (true, .val (.slice x.ra x.k x.rc)), (true, .val (.agg #[.int .i64 f, .string ((kba x.q))])), (true, .val (.tuple #[.int .i64 (((((idxE N (⟨f, x.q⟩ : En)).getD 0) : Nat) : Int)), .bool ((idxE N (⟨f, x.q⟩ : En)).isSome)])), (true, .val (.tuple #[.int .i64 (((((idxE N (⟨f, x.q⟩ : En)).getD 0) : Nat) : Int)), .bool ((idxE N (⟨f, x.q⟩ : En)).isSome)])), (true, .val (.int .i64 (((((idxE N (⟨f, x.q⟩ : En)).getD 0) : Nat) : Int)))), (true, .val (.bool ((idxE N (⟨f, x.q⟩ : En)).isSome))), (true, .val (.int .i64 (((((idxE N (⟨f, x.q⟩ : En)).getD 0) : Nat) : Int)))), (true, .val (.bool ((idxE N (⟨f, x.q⟩ : En)).isSome)))] [(0, .pointer (some ⟨g, 0, none⟩)), (1, .agg #[.int .i64 f, .slice a l.length c]), (3, .pointer (some ⟨g2, 0, none⟩)), (6, .slice x.ra x.k x.rc), (15, .bool false), (17, .slice a l.length c), (18, .int .i64 (((l.length : Nat) : Int))), (19, .int .i64 (((x.k : Nat) : Int))), (20, .bool ((decide ((((x.k : Nat) : Int) : Int) < (((l.length : Nat) : Int) : Int)))))] ⟨rfl, rfl, rfl, rfl, rfl, rfl, rfl, rfl, rfl, trivial⟩ (by kernel_rfl) (by kernel_rfl) (by kernel_rfl) ?_ ?_
   ·refine ⟨⟨true, .none rfl, fun h w => optUndef h, fun zβ za zw zc => ?_⟩, ?_⟩
    ·exact wp_move rfl (zc.kn.ev rfl) ⟨_, rfl, Below.refl _ _, optDef zβ rfl⟩
    refine ⟨⟨true, .none rfl, fun h w => optUndef h, fun zβ za zw zc => ?_⟩, ?_⟩
    ·exact nilCheck_ rfl ((evt za 37).trans (optVal (zc.dep 0 37 (by kernel_rfl)) rfl rfl)) ⟨_, rfl, Below.refl _ _, optDef zβ rfl⟩
    refine ⟨⟨true, .none rfl, fun h w => optUndef h, fun zβ za zw zc => ?_⟩, ?_⟩
    ·exact fld_70_2 rfl ((evt za 38).trans (optVal (zc.dep 1 38 (by kernel_rfl)) rfl rfl)) ⟨_, rfl, Below.refl _ _, optDef zβ rfl⟩
    refine ⟨⟨true, .none rfl, fun h w => optUndef h, fun zβ za zw zc => ?_⟩, ?_⟩
    ·exact ld_67 rfl ((evt za 39).trans (optVal (zc.dep 2 39 (by kernel_rfl)) rfl rfl)) (bkeeps zc.below _ _ hc70) ⟨_, rfl, Below.refl _ _, optDef zβ rfl⟩
    refine ⟨⟨true, .none rfl, fun h w => optUndef h, fun zβ za zw zc => ?_⟩, ?_⟩
    ·exact fld_35_0 rfl (zc.kn.ev rfl) ⟨_, rfl, Below.refl _ _, optDef zβ rfl⟩
    refine ⟨⟨true, .none rfl, fun h w => optUndef h, fun zβ za zw zc => ?_⟩, ?_⟩
    ·exact ld_3 rfl ((evt za 41).trans (optVal (zc.dep 4 41 (by kernel_rfl)) rfl rfl)) (bkeeps zc.below _ _ ((hB14.cell 0).trans rfl)) ⟨_, rfl, Below.refl _ _, optDef zβ rfl⟩
    refine ⟨⟨true, .none rfl, fun h w => optUndef h, fun zβ za zw zc => ?_⟩, ?_⟩
    ·exact wp_move rfl (zc.kn.ev rfl) ⟨_, rfl, Below.refl _ _, optDef zβ rfl⟩
    refine ⟨⟨true, .none rfl, fun h w => optUndef h, fun zβ za zw zc => ?_⟩, ?_⟩
    ·exact wp_call (by kernel_rfl) rfl (hv2 ((evt za 42).trans (optVal (zc.dep 5 42 (by kernel_rfl)) rfl rfl)) ((evt za 43).trans (optVal (zc.dep 6 43 (by kernel_rfl)) rfl rfl))) (hko _ (InRow.below hro zc.below)) (fun v w' h => ⟨v, rfl, h.2, optDef zβ h.1⟩)
    refine ⟨⟨true, .none rfl, fun h w => optUndef h, fun zβ za zw zc => ?_⟩, ?_⟩
    ·exact wp_lookup_key (z := (⟨f, x.q⟩ : En)) hzo rfl ((evt za 40).trans (optVal (zc.dep 3 40 (by kernel_rfl)) rfl rfl)) ((evt za 44).trans (optVal (zc.dep 7 44 (by kernel_rfl)) rfl rfl)) (hb.map.below (bstep hb13 zc.below)) ⟨_, rfl, Below.refl _ _, optDef zβ rfl⟩
    refine ⟨⟨true, .none rfl, fun h w => optUndef h, fun zβ za zw zc => ?_⟩, ?_⟩
    ·exact wp_move rfl ((evt za 45).trans (optVal (zc.dep 8 45 (by kernel_rfl)) rfl rfl)) ⟨_, rfl, Below.refl _ _, optDef zβ rfl⟩
    refine ⟨⟨true, .none rfl, fun h w => optUndef h, fun zβ za zw zc => ?_⟩, ?_⟩
    ·exact ext2_0 rfl ((evt za 36).trans (optVal (zc.dep 9 36 (by kernel_rfl)) rfl rfl)) ⟨_, rfl, Below.refl _ _, optDef zβ rfl⟩
    refine ⟨⟨true, .none rfl, fun h w => optUndef h, fun zβ za zw zc => ?_⟩, ?_⟩
    ·exact ext2_1 rfl ((evt za 36).trans (optVal (zc.dep 9 36 (by kernel_rfl)) rfl rfl)) ⟨_, rfl, Below.refl _ _, optDef zβ rfl⟩
    refine ⟨⟨true, .none rfl, fun h w => optUndef h, fun zβ za zw zc => ?_⟩, ?_⟩
    ·exact wp_assign rfl ((evt za 46).trans (optVal (zc.dep 10 46 (by kernel_rfl)) rfl rfl)) ⟨_, rfl, Below.refl _ _, optDef zβ rfl⟩
    refine ⟨⟨true, .none rfl, fun h w => optUndef h, fun zβ za zw zc => ?_⟩, ?_⟩
    ·exact wp_assign rfl ((evt za 47).trans (optVal (zc.dep 11 47 (by kernel_rfl)) rfl rfl)) ⟨_, rfl, Below.refl _ _, optDef zβ rfl⟩
    exact trivial
   ·intro za w71 zh hb72 zu
    have zh := zh.cons (d := 11) (v := .int .i64 (((((idxE N (⟨f, x.q⟩ : En)).getD 0) : Nat) : Int))) (optVal (zu 12 11 (by kernel_rfl)) rfl rfl)
    have zh := zh.cons (d := 12) (v := .bool ((idxE N (⟨f, x.q⟩ : En)).isSome)) (optVal (zu 13 12 (by kernel_rfl)) rfl rfl)
    clear zu
    refine WE.go zh ?_
    refine WE.next (WC.seq (WC.region (WL.mv rfl rfl rfl rfl rfl (WL.mv rfl rfl rfl rfl rfl (WL.asg rfl rfl rfl rfl rfl (WL.asg rfl rfl rfl rfl rfl (WL.nil (WE.next (WC.ret (WE.ret2 rfl rfl rfl ?_))))))))))
    have hb73 : Below w.heap.size w w71 := (bstep hb13 hb72)
    exact ⟨_, rfl, by rw [T.bfind, hqx]; rfl, hb73⟩
end Go.Proofs.Ytbohlpfndiiimaa

/- Rows of things of several cells, how they lie in memory. -/
namespace Go.Proofs.Ytbohlpfndiiimaa
open Go.RowKit
/-- The row at 'a' holds the things 'l', 'k' cells each. -/
def IsRow {α : Type} (w : World) (k : Nat) (R : World → α → List Value → Prop) (l : List α) (a : Option Addr) : Prop :=
  ∀ i (hi : i < l.length), ∃ (b o : Nat) (cs : List Value), a = some ⟨b, o, none⟩ ∧ cs.length = k ∧ (∀ j, j < k → w.cell? ⟨b, o + i * k + j, none⟩ = cs[j]?) ∧ R w l[i] cs
theorem IsRow.keep {α : Type} {w w' : World} {k : Nat} {R : World → α → List Value → Prop} {l : List α} {a : Option Addr} (h : IsRow w k R l a) (hb : Below w.heap.size w w') (hR : ∀ x cs, R w x cs → R w' x cs) : IsRow w' k R l a := by
  intro i hi
  obtain ⟨b, o, cs, h1, h2, h3, h4⟩ := h i hi
  refine ⟨b, o, cs, h1, h2, fun j hj => ?_, hR _ _ h4⟩
  have := h3 j hj
  rw [List.getElem?_eq_getElem (by omega)] at this ⊢
  exact bkeeps hb _ _ this
section
variable {H : Type} {enc : TypeId × Value → H} {P : Program} {w : World} {base : Nat} {spare : Nat → Bool} {held : Bool}
/-- A slice opened: its things, one by one. -/
theorem open_row {α : Type} [Inhabited α] {t e : TypeId} {k : Nat} {fuel : Nat} {cs : List Value} {x : DataW H × List MemPlace} (ht : P.underlying t = some (.slice e)) (hC : P.cellsOf e = k) (hk : 0 < k)
    (h : DataW.trod enc P w base spare held fuel t cs = some x) {R : World → α → List Value → Prop} {S : α → DataW H → Prop}
    (hel : ∀ n cs x, DataW.trod enc P w base spare held n e cs = some x → ∃ a : α, R w a cs ∧ S a x.1) :
    ∃ (l : List α) (a : Option Addr) (cap : Nat) (ds sp : List (DataW H)), cs = [.slice a l.length cap] ∧ l.length ≤ cap ∧ cap ≤ maxLen ∧ IsRow w k R l a ∧ ds.length = l.length ∧ (x.1 = .nil ∧ l = [] ∧ ds = [] ∨ x.1 = .slice ds sp) ∧
      ∀ i (hi : i < l.length) (hd : i < ds.length), S l[i] ds[i] := by
  rcases DataW.trod_slice ht h with ⟨rfl, rfl⟩ | ⟨a, len, cap, elems, rest, m, rfl, rfl, rfl, hb, hlc, hcm, hlen, hat, _, _⟩
  · exact ⟨[], none, 0, [], [], rfl, Nat.le_refl _, Nat.zero_le _, fun i hi => absurd hi (by simp), rfl, .inl ⟨rfl, rfl, rfl⟩, fun i hi => absurd hi (by simp)⟩
  · have hspot : 0 < len → ∃ b o, a = ⟨b, o, none⟩ := by
      intro h0
      have hk := hat 0 h0
      rw [hC, List.getElem?_eq_getElem (by omega)] at hk
      obtain ⟨cs', h1, _⟩ := Option.bind_eq_some_iff.1 hk
      obtain ⟨_, hl', hcell⟩ := World.cells?_some h1
      have c0 := hcell 0 (by omega)
      rw [List.getElem?_eq_getElem (by omega)] at c0
      have := World.cell?_spot c0
      obtain ⟨b, o, spot⟩ := a
      exact ⟨b, o, by simpa [Addr.add] using this⟩
    have key : ∀ i, i < len → ∃ t : α, (∃ (b o : Nat) (cs : List Value), some a = some ⟨b, o, none⟩ ∧ cs.length = k ∧ (∀ j, j < k → w.cell? ⟨b, o + i * k + j, none⟩ = cs[j]?) ∧ R w t cs) ∧
        ∀ (hd : i < elems.length), S t elems[i].1 := by
      intro i hi
      have hk := hat i hi
      rw [hC, List.getElem?_eq_getElem (by omega)] at hk
      obtain ⟨cs', h1, h2⟩ := Option.bind_eq_some_iff.1 hk
      obtain ⟨t, hR, hS⟩ := hel _ _ _ h2
      obtain ⟨_, hl', hcell⟩ := World.cells?_some h1
      obtain ⟨b, o, rfl⟩ := hspot (by omega)
      refine ⟨t, ⟨b, o, cs', rfl, hl', fun j hj => ?_, hR⟩, fun _ => hS⟩
      have := hcell j hj
      rwa [add_plain2, add_plain2] at this
    obtain ⟨F, hF⟩ := Go.Deep.choose_lt key
    have hLL : ((List.range len).map F).length = len := by simp
    refine ⟨(List.range len).map F, some a, cap, elems.map (·.1), rest.map (·.1), by rw [hLL], by rw [hLL]; exact hlc, hcm, fun i hi => ?_, by rw [hLL]; simpa using hlen, .inr rfl, fun i hi hd => ?_⟩
    · have := (hF i (by simpa using hi)).1
      simpa using this
    · have := (hF i (by simpa using hi)).2 (by simpa using hd)
      simpa using this
end
end Go.Proofs.Ytbohlpfndiiimaa

/- Signatures: how they lie in memory, that what reads as one is one; which ones may be, as plain functions. -/
namespace Go.Proofs.Ytbohlpfndiiimaa
open Go.RowKit
/-- A symbol. -/
structure Sy where
  name : ByteArray
  ar : Int
  pred : Bool
  deriving DecidableEq
instance : Inhabited Sy := ⟨⟨ByteArray.empty, 0, false⟩⟩
def IsSy (_ : World) (x : Sy) (cs : List Value) : Prop := cs = [.string x.name, .int .i64 x.ar, .bool x.pred] ∧ I64 x.ar ∧ x.name.size ≤ maxLen
def IsSys (w : World) (l : List Sy) (a : Option Addr) : Prop := IsRow w 3 IsSy l a
theorem IsSys.below {w w' : World} (hb : Below w.heap.size w w') {l : List Sy} {a : Option Addr} (h : IsSys w l a) : IsSys w' l a := IsRow.keep h hb (fun _ _ h => h)
theorem IsSys.at_ {w w' : World} {l : List Sy} {a : Option Addr} (h : IsSys w l a) (hb : Below w.heap.size w w') (k : Nat) (hk : k < l.length) :
    ∃ (b o : Nat), a = some ⟨b, o, none⟩ ∧ w'.cell? ⟨b, o + k * 3, none⟩ = some (.string l[k].name) ∧ w'.cell? ⟨b, o + k * 3 + 1, none⟩ = some (.int .i64 l[k].ar) ∧ w'.cell? ⟨b, o + k * 3 + 2, none⟩ = some (.bool l[k].pred) ∧ I64 l[k].ar ∧ l[k].name.size ≤ maxLen := by
  obtain ⟨b, o, cs, h1, _, h3, rfl, h4, h5⟩ := h k hk
  have e0 := h3 0 (by omega)
  have e1 := h3 1 (by omega)
  have e2 := h3 2 (by omega)
  simp only [List.getElem?_cons_zero, List.getElem?_cons_succ, Nat.add_zero] at e0 e1 e2
  exact ⟨b, o, h1, bkeeps hb _ _ e0, bkeeps hb _ _ e1, bkeeps hb _ _ e2, h4, h5⟩
/-- The value is the signature. -/
def IsSig (w : World) (l : List Sy) (v : Value) : Prop := ∃ (a : Option Addr) (c : Nat), v = .agg #[.slice a l.length c] ∧ l.length ≤ c ∧ c ≤ maxLen ∧ IsSys w l a
theorem IsSig.below {w w' : World} (hb : Below w.heap.size w w') {l : List Sy} {v : Value} (h : IsSig w l v) : IsSig w' l v := by
  obtain ⟨a, c, h1, h2, h3, h4⟩ := h
  exact ⟨a, c, h1, h2, h3, h4.below hb⟩
section
variable {H : Type} {enc : TypeId × Value → H} {w : World} {base : Nat} {spare : Nat → Bool} {held : Bool}
set_option maxRecDepth 100000 in
theorem open_Sy (fuel : Nat) (cs : List Value) (x : DataW H × List MemPlace) (h : DataW.trod enc Try.prog w base spare held fuel 66 cs = some x) : ∃ y : Sy, IsSy w y cs := by
  have hC : Try.prog.cellsOf 66 = 3 := by kernel_rfl
  have hC1 : Try.prog.cellsOf 9 = 1 := by kernel_rfl
  have hC2 : Try.prog.cellsOf 3 = 1 := by kernel_rfl
  have hC3 : Try.prog.cellsOf 4 = 1 := by kernel_rfl
  obtain ⟨xs, n, rfl, rfl, hl, hlen, hf⟩ := DataW.trod_struct Try.underlying66 h
  rw [hC] at hl
  match xs, hlen, cs, hl with
  | [y0, y1, y2], _, [c0, c1, c2], _ =>
    have g0 : DataW.trod enc Try.prog w base spare held n 9 [c0] = some y0 := by simpa [hC1] using hf 0 _ rfl
    have g1 : DataW.trod enc Try.prog w base spare held n 3 [c1] = some y1 := by simpa [hC2] using hf 1 _ rfl
    have g2 : DataW.trod enc Try.prog w base spare held n 4 [c2] = some y2 := by simpa [hC3] using hf 2 _ rfl
    obtain ⟨s, e0, rfl, hs⟩ := DataW.trod_string Try.underlying9 g0
    obtain ⟨m, e1, rfl, wf⟩ := DataW.trod_int Try.underlying3 g1
    obtain ⟨b, e2, rfl⟩ := DataW.trod_bool Try.underlying4 g2
    simp only [List.cons.injEq, and_true] at e0 e1 e2
    subst e0 e1 e2
    exact ⟨⟨s, m, b⟩, rfl, i64_wf wf, hs⟩
end
/-! ### The plain functions -/
def byteOk (c : UInt8) : Bool := (97 ≤ c && c ≤ 122) || (65 ≤ c && c ≤ 90) || (48 ≤ c && c ≤ 57) || c == 95
def named (s : ByteArray) : Bool := decide (1 ≤ s.size ∧ s.size ≤ 40) && s.data.toList.all byteOk
def Sy.one (x : Sy) : Int := if named x.name then (if x.ar < 0 ∨ 6 < x.ar then 112 else 0) else 111
def truth : Sy := ⟨⟨#[36, 116, 114, 117, 101]⟩, 0, true⟩
/-- A symbol's place in a row, from 'k' on. -/
def syAt (x : Sy) : List Sy → Int → Int
  | [], _ => -1
  | y :: r, k => if y = x then k else syAt x r (k + 1)
/-- The first error among the symbols from the k-th on. -/
def symsErr (all : List Sy) : List Sy → Int → Int
  | [], _ => 0
  | x :: r, k => if x.one ≠ 0 then x.one else if syAt x all 0 < k then 113 else symsErr all r (k + 1)
def sigCheck (l : List Sy) : Int :=
  if 96 < l.length then 3 else if l.head? ≠ some truth then 110 else symsErr l (l.drop 1) 1
end Go.Proofs.Ytbohlpfndiiimaa

/- Rows of symbols, opened whole. -/
namespace Go.Proofs.Ytbohlpfndiiimaa
open Go.RowKit Go
def sget (l : List Sy) (k : Nat) : Sy := l.getD k default
theorem sget_lt {l : List Sy} {k : Nat} (h : k < l.length) : sget l k = l[k] := by simp [sget, h]
theorem sget_mem {l : List Sy} {k : Nat} (h : k < l.length) : sget l k ∈ l := by rw [sget_lt h]; exact List.getElem_mem h
theorem IsSys.open {w : World} {l : List Sy} {a : Option Addr} (h : IsSys w l a) : ∃ (b o : Nat), (∀ k, k < l.length → a = some ⟨b, o, none⟩) ∧
    ∀ k, k < l.length → w.cell? ⟨b, o + k * 3, none⟩ = some (.string (sget l k).name) ∧ w.cell? ⟨b, o + k * 3 + 1, none⟩ = some (.int .i64 (sget l k).ar) ∧ w.cell? ⟨b, o + k * 3 + 2, none⟩ = some (.bool (sget l k).pred) := by
  rcases Nat.eq_zero_or_pos l.length with h0 | h0
  · exact ⟨0, 0, fun k hk => by omega, fun k hk => by omega⟩
  · obtain ⟨b, o, ha, _⟩ := h.at_ (Below.refl _ _) 0 h0
    refine ⟨b, o, fun _ _ => ha, fun k hk => ?_⟩
    obtain ⟨b', o', ha', h1, h2, h3, _⟩ := h.at_ (Below.refl _ _) k hk
    rw [ha] at ha'
    simp only [Option.some.injEq, Addr.mk.injEq, and_true] at ha'
    obtain ⟨rfl, rfl⟩ := ha'
    rw [sget_lt hk]; exact ⟨h1, h2, h3⟩
theorem IsSys.wf {w : World} {l : List Sy} {a : Option Addr} (h : IsSys w l a) {k : Nat} (hk : k < l.length) : I64 (sget l k).ar ∧ (sget l k).name.size ≤ maxLen := by
  obtain ⟨_, _, _, _, _, _, h4, h5⟩ := h.at_ (Below.refl _ _) k hk
  rw [sget_lt hk]; exact ⟨h4, h5⟩
theorem IsRow.drop {α : Type} {w : World} {sz c k : Nat} {R : World → α → List Value → Prop} {l : List α} {a : Option Addr} (h : IsRow w sz R l a) (hc : l.length ≤ c) : IsRow w sz R (l.drop k) (slA a k sz c) := by
  intro i hi
  simp only [List.length_drop] at hi
  obtain ⟨b, o, cs, rfl, h2, h3, h4⟩ := h (k + i) (by omega)
  refine ⟨b, o + k * sz, cs, slA_some (by omega), h2, fun j hj => ?_, by simpa using h4⟩
  have := h3 j hj
  rwa [Nat.add_mul, ← Nat.add_assoc] at this
def syCells (l : List Sy) : List Value := l.flatMap fun x => [.string x.name, .int .i64 x.ar, .bool x.pred]
theorem syCells_len (l : List Sy) : (syCells l).length = l.length * 3 := by
  induction l with
  | nil => rfl
  | cons x r ih => simp only [syCells, List.flatMap_cons, List.length_append, List.length_cons, List.length_nil] at *; omega
theorem syCells_oneCell (l : List Sy) : ∀ u ∈ syCells l, u.oneCell' = true := by
  intro u hu
  simp only [syCells, List.mem_flatMap] at hu
  obtain ⟨x, _, h⟩ := hu
  simp only [List.mem_cons, List.not_mem_nil, or_false] at h
  rcases h with rfl | rfl | rfl <;> rfl
theorem syCells_at (l : List Sy) : ∀ k, k < l.length → (syCells l)[k * 3]? = some (.string (sget l k).name) ∧ (syCells l)[k * 3 + 1]? = some (.int .i64 (sget l k).ar) ∧ (syCells l)[k * 3 + 2]? = some (.bool (sget l k).pred) := by
  induction l with
  | nil => intro k hk; simp at hk
  | cons x r ih =>
    intro k hk
    cases k with
    | zero => simp [syCells, sget]
    | succ k =>
      have := ih k (by simpa using hk)
      have e : syCells (x :: r) = [.string x.name, .int .i64 x.ar, .bool x.pred] ++ syCells r := rfl
      have s1 : sget (x :: r) (k + 1) = sget r k := rfl
      rw [e, s1, show (k + 1) * 3 = k * 3 + 3 by omega]
      rw [List.getElem?_append_right (by simp), List.getElem?_append_right (by simp <;> omega), List.getElem?_append_right (by simp <;> omega)]
      simpa using this
theorem SrcIs.ofSys {w : World} {l : List Sy} {a : Option Addr} {c : Nat} (h : IsSys w l a) : SrcIs w (.slice a l.length c) l.length (syCells l) := by
  cases l with
  | nil =>
    cases a with
    | none => exact .inr ⟨c, rfl, rfl, rfl⟩
    | some ad => exact .inl ⟨ad, c, rfl, fun j u hj => by simp [syCells] at hj⟩
  | cons x r =>
    obtain ⟨b, o, ha, hc⟩ := h.open
    obtain rfl := ha 0 (by simp)
    refine .inl ⟨_, _, rfl, fun j u hj => ?_⟩
    have hj' : j < (syCells (x :: r)).length := (List.getElem?_eq_some_iff.1 hj).1
    rw [syCells_len] at hj'
    have hk : j / 3 < (x :: r).length := by omega
    obtain ⟨h0, h1, h2⟩ := hc (j / 3) hk
    obtain ⟨e0, e1, e2⟩ := syCells_at (x :: r) (j / 3) hk
    rw [add_plain2]
    rcases (show j = j / 3 * 3 ∨ j = j / 3 * 3 + 1 ∨ j = j / 3 * 3 + 2 by omega) with e | e | e
    · rw [e, e0] at hj; rw [e]; rw [← Option.some.inj hj]; exact h0
    · rw [e, e1] at hj; rw [e, ← Nat.add_assoc]; rw [← Option.some.inj hj]; exact h1
    · rw [e, e2] at hj; rw [e, ← Nat.add_assoc]; rw [← Option.some.inj hj]; exact h2
theorem sys_of_own {w : World} {base : Nat} {l : List Sy} {ra : Option Addr} {n rc : Nat} (h : w.ownsRow base 66 3 (.slice ra n rc) n (syCells l)) (hl : ∀ x ∈ l, I64 x.ar ∧ x.name.size ≤ maxLen) : n = l.length ∧ n ≤ rc ∧ rc ≤ maxLen ∧ IsSys w l ra := by
  have hn : n = l.length := by have := h.1; rw [syCells_len] at this; omega
  subst hn
  rcases h.2 with ⟨e, h0⟩ | ⟨g, cap, cur, e, _, hB, hc, hm, _, _⟩
  · simp only [Value.slice.injEq] at e
    refine ⟨rfl, by omega, by rw [e.2.2]; unfold maxLen; omega, fun k hk => by omega⟩
  · simp only [Value.slice.injEq, true_and] at e
    obtain ⟨rfl, rfl⟩ := e
    refine ⟨rfl, hc, hm, fun k hk => ⟨g, 0, [.string (sget l k).name, .int .i64 (sget l k).ar, .bool (sget l k).pred], rfl, rfl, fun j hj => ?_, ?_⟩⟩
    · obtain ⟨e0, e1, e2⟩ := syCells_at l k hk
      have hcell := fun i u hi => h.cells (g := g) rfl i u hi
      simp only [add_plain2] at hcell
      rcases (show j = 0 ∨ j = 1 ∨ j = 2 by omega) with rfl | rfl | rfl
      · have := hcell _ _ e0; simpa [Nat.add_assoc] using this
      · have := hcell _ _ e1; simpa [Nat.add_assoc] using this
      · have := hcell _ _ e2; simpa [Nat.add_assoc] using this
    · have := hl _ (sget_mem hk)
      rw [sget_lt hk]
      rw [sget_lt hk] at this
      exact ⟨rfl, this.1, this.2⟩
theorem IsSys.wfs {w : World} {l : List Sy} {a : Option Addr} (h : IsSys w l a) : ∀ x ∈ l, I64 x.ar ∧ x.name.size ≤ maxLen := by
  intro x hx
  obtain ⟨k, hk, rfl⟩ := List.getElem_of_mem hx
  have := h.wf hk
  rwa [sget_lt hk] at this
end Go.Proofs.Ytbohlpfndiiimaa

/- The walks through the document's check of a signature. -/
namespace Go.Proofs.Ytbohlpfndiiimaa
open Go.RowKit Go.Sort Go
theorem truth_any (w : World) : Calls Try.prog 51 #[] w fun e w' => e = .returned (.agg #[.string truth.name, .int .i64 truth.ar, .bool truth.pred]) ∧ Below w.heap.size w w' := by
  go_enter Try.func51, Try.ntmps51
  go_wp2_with fail
  refine bodyPost_ret (v := .agg #[.string truth.name, .int .i64 truth.ar, .bool truth.pred]) (by simp [results, Try.results51, go_sem, truth]) rfl ?_
  exact ⟨rfl, balloc _ _⟩
set_option maxHeartbeats 4000000 in
theorem named_any (s : ByteArray) (w : World) (hs : s.size ≤ maxLen) : Calls Try.prog 67 #[.string s] w fun e w' => e = .returned (.bool (named s)) ∧ Below w.heap.size w w' := by
  unfold maxLen at hs
  by_cases h1 : s.size < 1
  · have HV := Lib.hid (show named s = false by unfold named; simp; omega)
    go_enter Try.func67, Try.ntmps67
    go_wp2_with fail
    go_ret
    exact ⟨rbool HV.out, Below.refl _ _⟩
  by_cases h2 : 40 < s.size
  · have HV := Lib.hid (show named s = false by unfold named; simp; omega)
    go_enter Try.func67, Try.ntmps67
    go_wp2_with fail
    go_ret
    exact ⟨rbool HV.out, Below.refl _ _⟩
  have HV := Lib.hid (show named s = s.data.toList.all byteOk by
    unfold named
    rw [decide_eq_true (by omega), Bool.true_and])
  go_enter Try.func67, Try.ntmps67
  go_wp2_with fail
  go_loopw [3, 4] (fun i _ wr => ∃ (k : Nat), k ≤ s.size ∧ i = .int .i64 k ∧ Hid ((s.data.toList.take k).all byteOk = true) ∧ Hid (Below w.heap.size w wr)) (fun i _ _ => s.size - (intOf i).toNat)
  case atStart => exact ⟨0, Nat.zero_le _, rfl, rfl, Below.refl _ _⟩
  case round =>
    obtain ⟨k, hk, rfl, hall, hw⟩ := hrel
    by_cases hlt : k < s.size
    · have hd : k < s.data.toList.length := by simpa using hlt
      have hg : s.data.toList[k] = s[k] := by simp [ByteArray.getElem_eq_getElem_data]
      have htk : (s.data.toList.take (k + 1)).all byteOk = byteOk s[k] := by
        rw [List.take_succ_eq_append_getElem hd, List.all_append, hall.out, hg]; simp
      have hP : byteOk s[k] = true ↔ (97 ≤ (s[k].toNat : Int) ∧ (s[k].toNat : Int) ≤ 122) ∨ (65 ≤ (s[k].toNat : Int) ∧ (s[k].toNat : Int) ≤ 90) ∨ (48 ≤ (s[k].toNat : Int) ∧ (s[k].toNat : Int) ≤ 57) ∨ (s[k].toNat : Int) = 95 := by
        unfold byteOk
        simp only [Bool.or_eq_true, Bool.and_eq_true, decide_eq_true_eq, beq_iff_eq, UInt8.le_iff_toNat_le, ← UInt8.toNat_inj]
        simp
        omega
      cases hb : byteOk s[k] with
      | true =>
        rw [hb] at htk
        have hP := Lib.hid (hP.1 hb)
        have htk := Lib.hid htk
        clear hb hall
        go_wp2_with fail
        all_goals first
          | (exfalso; have hq := hP.out; (try simp only [Bool.not_eq_true', decide_eq_false_iff_not, beq_eq_false_iff_ne, ne_eq] at *); omega)
          | (go_roundw
             case rel => exact ⟨k + 1, by omega, by go_num, htk.out, hw.out⟩
             case measure => simp [intOf]; omega)
      | false =>
        have HN := Lib.hid (show named s = false by
          rw [HV.out]
          refine List.all_eq_false.2 ⟨s[k], ?_, by rw [hb]; simp⟩
          rw [← hg]; exact List.getElem_mem hd)
        have hP := Lib.hid (mt hP.2 (by rw [hb]; simp))
        clear hb hall htk
        go_wp2_with fail
        all_goals first
          | (exfalso; have hq := hP.out; (try simp only [Bool.not_eq_true', Bool.not_eq_false', decide_eq_false_iff_not, decide_eq_true_eq, beq_eq_false_iff_ne, beq_iff_eq, ne_eq] at *); omega)
          | (go_ret
             exact ⟨rbool HN.out, hw.out⟩)
    · obtain rfl : k = s.size := by omega
      have HN := Lib.hid (show named s = true by
        rw [HV.out]
        have := hall.out
        rwa [List.take_of_length_le (by simp)] at this)
      go_wp2_with fail
      go_ret
      exact ⟨rbool HN.out, hw.out⟩
end Go.Proofs.Ytbohlpfndiiimaa

/- The walks through the document's check of a signature, the rest. -/
namespace Go.Proofs.Ytbohlpfndiiimaa
open Go.RowKit Go.Sort Go
def Sy.val (x : Sy) : Value := .agg #[.string x.name, .int .i64 x.ar, .bool x.pred]
theorem bytes_ext {n m : ByteArray} (h : n.toList = m.toList) : n = m := by
  rw [ByteArray.toList_eq, ByteArray.toList_eq] at h
  exact ByteArray.ext (Array.toList_inj.1 h)
theorem eqSy (n m : ByteArray) (a b : Int) (p q : Bool) (w : World) : (binOp .eql 66 (.agg #[.string n, .int .i64 a, .bool p]) (.agg #[.string m, .int .i64 b, .bool q])).run Try.prog w = .ok (.bool (decide ((⟨n, a, p⟩ : Sy) = ⟨m, b, q⟩))) w := by
  have hS : Try.prog.underlying 66 = some (.struct (Try.prog.fieldsOf 66)) := by kernel_rfl
  have hp : Try.prog.stoodInHeld 66 = false := by kernel_rfl
  have u1 := Try.underlying9
  have u2 := Try.underlying3
  have u3 := Try.underlying4
  rw [run_eql_struct, show (10000 : Nat) = 9999 + 1 from rfl, run_equalIn_agg w 9999 66 _ _ hS hp]
  simp only [Program.fieldsOf, Try.underlying66]
  go_simp
  have hn : ¬ n = m → ¬ n.toList = m.toList := fun h e => h (bytes_ext e)
  by_cases h1 : n = m <;> by_cases h2 : a = b <;> by_cases h3 : p = q <;> simp_all
theorem neqSy (n m : ByteArray) (a b : Int) (p q : Bool) (w : World) : (binOp .neq 66 (.agg #[.string n, .int .i64 a, .bool p]) (.agg #[.string m, .int .i64 b, .bool q])).run Try.prog w = .ok (.bool (!decide ((⟨n, a, p⟩ : Sy) = ⟨m, b, q⟩))) w := by
  have h := eqSy n m a b p q w
  rw [run_eql_struct] at h
  rw [run_neq_struct]
  cases hr : (Op.equalIn 10000 66 (.agg #[.string n, .int .i64 a, .bool p]) (.agg #[.string m, .int .i64 b, .bool q])).run Try.prog w with
  | ok b' w' =>
    rw [hr] at h
    simp only [Result.andThen_ok, Result.ok.injEq, Value.bool.injEq] at h ⊢
    exact ⟨by rw [h.1], h.2⟩
  | halt x w' => rw [hr] at h; simp [Result.andThen] at h
theorem guardSy (op : BinOp) (x y : Operand) (xs ys : Array Value) (w : World) : (eqGuard op 66 x y (.agg xs) (.agg ys)).run Try.prog w = .ok () w := run_eqGuard_agg w op _ x y xs ys (by kernel_rfl)
theorem one_any (x : Sy) (w : World) (hs : x.name.size ≤ maxLen) : Calls Try.prog 58 #[x.val] w fun e w' => e = .returned (.int .i64 x.one) ∧ Below w.heap.size w w' := by
  have NM := fun w => named_any x.name w hs
  have E : x.one = if named x.name then (if x.ar < 0 ∨ 6 < x.ar then 112 else 0) else 111 := rfl
  obtain ⟨name, ar, pred⟩ := x
  unfold Sy.val
  generalize Sy.one ⟨name, ar, pred⟩ = r at *
  simp only at *
  generalize named name = b at *
  cases b with
  | false =>
    have HE := Lib.hid (show r = 111 by rw [E]; rfl)
    clear E
    go_enter Try.func58, Try.ntmps58
    go_wp2_with fail
    refine (NM _).mono ?_
    rintro e w1 ⟨rfl, hb1⟩
    go_wp2_with fail
    go_ret
    exact ⟨rint HE.out, bcall hb1⟩
  | true =>
    have HE := Lib.hid (show r = if ar < 0 ∨ 6 < ar then 112 else 0 by rw [E]; simp)
    clear E
    go_enter Try.func58, Try.ntmps58
    go_wp2_with fail
    refine (NM _).mono ?_
    rintro e w1 ⟨rfl, hb1⟩
    obtain ⟨B1, hw⟩ := box1 hb1
    have k0 := B1 0 _ rfl
    have k1 := B1 1 _ rfl
    have k2 := B1 2 _ rfl
    have Hhw := Lib.hid hw
    clear hw
    clear hb1 B1
    by_cases h1 : ar < 0
    · have HV := Lib.hid (show r = 112 by rw [HE.out, if_pos (.inl h1)])
      go_wp2_with fail
      go_ret
      exact ⟨rint HV.out, Hhw.out⟩
    · by_cases h2 : 6 < ar
      · have HV := Lib.hid (show r = 112 by rw [HE.out, if_pos (.inr h2)])
        go_wp2_with fail
        go_ret
        exact ⟨rint HV.out, Hhw.out⟩
      · have HV := Lib.hid (show r = 0 by rw [HE.out, if_neg (by omega)])
        go_wp2_with fail
        go_ret
        exact ⟨rint HV.out, Hhw.out⟩
theorem at_any (x : Sy) (l : List Sy) (w : World) (a : Option Addr) (c : Nat) (hc : l.length ≤ c) (hm : c ≤ maxLen) (hl : IsSys w l a) :
    Calls Try.prog 59 #[.slice a l.length c, x.val] w fun e w' => e = .returned (.int .i64 (syAt x l 0)) ∧ Below w.heap.size w w' := by
  unfold maxLen at hm
  obtain ⟨name, ar, pred⟩ := x
  unfold Sy.val
  simp only
  go_enter Try.func59, Try.ntmps59
  go_wp2_with fail
  go_loopw [5] (fun i wr => ∃ (k : Nat), k ≤ l.length ∧ i = .int .i64 k ∧ Hid (syAt ⟨name, ar, pred⟩ l 0 = syAt ⟨name, ar, pred⟩ (l.drop k) k) ∧ Below w.heap.size w wr ∧ Box wr w.heap.size [.string name, .int .i64 ar, .bool pred]) (fun i _ => l.length - (intOf i).toNat)
  case atStart => exact ⟨0, Nat.zero_le _, rfl, by simp [Hid], balloc _ _, Box.new _ _ _⟩
  case round =>
    obtain ⟨k, hk, rfl, hx, hw, hB⟩ := hrel
    by_cases hlt : k < l.length
    · obtain ⟨b, o, rfl, g0, g1, g2, _, _⟩ := hl.at_ hw k hlt
      have k0 := hB 0 _ rfl
      have k1 := hB 1 _ rfl
      have k2 := hB 2 _ rfl
      have r0 := cell_regrown k0
      have r1 := cell_regrown k1
      have r2 := cell_regrown k2
      have r3 := cell_regrown g0
      have r4 := cell_regrown g1
      have r5 := cell_regrown g2
      have z0 : (0 : Int) ≤ (k : Int) := by omega
      have z1 : (k : Int) < (l.length : Int) := by omega
      have hd : syAt ⟨name, ar, pred⟩ (l.drop k) k = if l[k] = ⟨name, ar, pred⟩ then (k : Int) else syAt ⟨name, ar, pred⟩ (l.drop (k + 1)) (k + 1 : Nat) := by
        rw [List.drop_eq_getElem_cons hlt, syAt]; rfl
      have Hhw := Lib.hid hw
      have HhB := Lib.hid hB
      have Hhd := Lib.hid hd
      clear hw hB hd
      go_wp2_with fail
      have GD := guardSy
      by_cases he : l[k] = ⟨name, ar, pred⟩
      · have EQ := fun w => eqSy l[k].name name l[k].ar ar l[k].pred pred w
        rw [decide_eq_true (show (⟨l[k].name, l[k].ar, l[k].pred⟩ : Sy) = ⟨name, ar, pred⟩ from he)] at EQ
        have HV := Lib.hid (show syAt ⟨name, ar, pred⟩ l 0 = k by rw [hx.out, Hhd.out, if_pos he])
        clear he
        refine wp_region_quiet_below (by kernel_rfl) (by kernel_rfl) ?_
        repeat (quiet_step (fail))
        refine wpQuiet_nil ?_
        intro _ hw'
        obtain ⟨⟨dq, osq⟩, hw''⟩ := hw'
        subst hw''
        have hbq := below_regrown wr dq osq
        generalize grow (redrawn wr dq) osq = wq at hbq ⊢
        go_wp2_with fail
        go_ret
        exact ⟨rint HV.out, bstep Hhw.out hbq⟩
      · have EQ := fun w => eqSy l[k].name name l[k].ar ar l[k].pred pred w
        rw [decide_eq_false (show ¬ (⟨l[k].name, l[k].ar, l[k].pred⟩ : Sy) = ⟨name, ar, pred⟩ from he)] at EQ
        have HV := Lib.hid (show syAt ⟨name, ar, pred⟩ l 0 = syAt ⟨name, ar, pred⟩ (l.drop (k + 1)) (k + 1 : Nat) by rw [hx.out, Hhd.out, if_neg he])
        clear he
        refine wp_region_quiet_below (by kernel_rfl) (by kernel_rfl) ?_
        repeat (quiet_step (fail))
        refine wpQuiet_nil ?_
        intro _ hw'
        obtain ⟨⟨dq, osq⟩, hw''⟩ := hw'
        subst hw''
        have hbq := below_regrown wr dq osq
        generalize grow (redrawn wr dq) osq = wq at hbq ⊢
        go_wp2_with fail
        go_roundw
        case rel => exact ⟨k + 1, by omega, by go_num, HV.out, bstep Hhw.out hbq, HhB.out.below hbq⟩
        case measure => simp [intOf]; omega
    · have HV := Lib.hid (show syAt ⟨name, ar, pred⟩ l 0 = -1 by rw [hx.out, List.drop_eq_nil_of_le (by omega), syAt])
      go_wp2_with fail
      go_ret
      exact ⟨rint HV.out, hw⟩
end Go.Proofs.Ytbohlpfndiiimaa

/- The walk through the document's check of a signature: the check. -/
namespace Go.Proofs.Ytbohlpfndiiimaa
open Go.RowKit Go.Sort Go
set_option maxHeartbeats 1000000 in
theorem sigCheck_any (l : List Sy) (w : World) (v : Value) (hv : IsSig w l v) :
    Calls Try.prog 38 #[v] w fun e w' => e = .returned (.int .i64 (sigCheck l)) ∧ Below w.heap.size w w' := by
  obtain ⟨a, c, rfl, hc, hm, hl⟩ := hv
  have hm0 := hm
  unfold maxLen at hm
  have E : sigCheck l = if 96 < l.length then 3 else if l.head? ≠ some truth then 110 else symsErr l (l.drop 1) 1 := rfl
  generalize hr : sigCheck l = r at *
  clear hr
  by_cases h1 : 96 < l.length
  · have HE := Lib.hid (show r = 3 by rw [E, if_pos h1])
    clear E
    go_enter Try.func38, Try.ntmps38
    go_wp2_with fail
    go_ret
    exact ⟨rint HE.out, balloc _ _⟩
  rw [if_neg h1] at E
  by_cases h2 : l.length = 0
  · obtain rfl : l = [] := List.length_eq_zero_iff.1 h2
    have HE := Lib.hid (show r = 110 by rw [E, if_pos (by simp)])
    clear E h1 h2 hl
    simp only [List.length_nil] at *
    go_enter Try.func38, Try.ntmps38
    go_wp2_with fail
    obtain ⟨B1, hw⟩ := box1 (Below.refl _ (w.alloc (.cells #[.slice a 0 c] 24)))
    generalize w.alloc (.cells #[.slice a 0 c] 24) = W0 at B1 hw ⊢
    have r0 := cell_regrown (B1 0 _ rfl)
    have Hhw := Lib.hid hw
    clear hw
    refine wp_region_quiet_below (by kernel_rfl) (by kernel_rfl) ?_
    repeat (quiet_step (fail))
    refine wpQuiet_nil ?_
    intro _ hw'
    obtain ⟨⟨dq, osq⟩, hw''⟩ := hw'
    subst hw''
    have hbq := below_regrown W0 dq osq
    generalize grow (redrawn W0 dq) osq = wq at hbq ⊢
    go_wp2_with fail
    go_ret
    exact ⟨rint HE.out, bstep Hhw.out hbq⟩
  have hb2 : ((l.length : Int) == 0) = false := by simp only [beq_eq_false_iff_ne, ne_eq]; omega
  have h0 : 0 < l.length := by omega
  have hhd : l.head? = some l[0] := by rw [List.head?_eq_getElem?, List.getElem?_eq_getElem h0]
  rw [hhd] at E
  have TR := fun w => truth_any w
  have GD := guardSy
  by_cases h3 : l[0] = truth
  · rw [if_neg (by rw [h3]; simp)] at E
    have HE := Lib.hid E
    have EQ := fun w => neqSy l[0].name truth.name l[0].ar truth.ar l[0].pred truth.pred w
    rw [decide_eq_true (show (⟨l[0].name, l[0].ar, l[0].pred⟩ : Sy) = ⟨truth.name, truth.ar, truth.pred⟩ from h3)] at EQ
    clear E h3 hhd
    go_enter Try.func38, Try.ntmps38
    go_wp2_with fail
    obtain ⟨B1, hw⟩ := box1 (Below.refl _ (w.alloc (.cells #[.slice a l.length c] 24)))
    generalize w.alloc (.cells #[.slice a l.length c] 24) = W0 at B1 hw ⊢
    have k0 := B1 0 _ rfl
    obtain ⟨b, o, rfl, g0, g1, g2, _, _⟩ := hl.at_ hw 0 h0
    simp only [Nat.zero_mul, Nat.add_zero] at g0 g1 g2
    have r0 := cell_regrown k0
    have r1 := cell_regrown g0
    have r2 := cell_regrown g1
    have r3 := cell_regrown g2
    have Hhw := Lib.hid hw
    have HB1 := Lib.hid B1
    clear hw B1
    refine wp_region_quiet_below (by kernel_rfl) (by kernel_rfl) ?_
    repeat (quiet_step (exact Calls.regrown_of (TR _)))
    refine wpQuiet_nil ?_
    intro _ hw'
    obtain ⟨⟨dq, osq⟩, hw''⟩ := hw'
    subst hw''
    have hbq := below_regrown W0 dq osq
    generalize grow (redrawn W0 dq) osq = wq at hbq ⊢
    have hw0 := Lib.hid (bstep Hhw.out hbq)
    have hB0 := Lib.hid (HB1.out.below hbq)
    clear r0 r1 r2 r3 k0 g0 g1 g2 hbq Hhw HB1 EQ TR
    go_wp2_with fail
    go_loopw [3] (fun i wr => ∃ (k : Nat), 1 ≤ k ∧ k ≤ l.length ∧ i = .int .i64 k ∧ Hid (r = symsErr l (l.drop k) k) ∧ Below w.heap.size w wr ∧ Box wr w.heap.size [.slice (some ⟨b, o, none⟩) l.length c]) (fun i _ => l.length - (intOf i).toNat)
    case atStart => exact ⟨1, by omega, by omega, rfl, HE.out, hw0.out, hB0.out⟩
    case round =>
      obtain ⟨k, hk0, hk, rfl, hx, hw, hB⟩ := hrel
      have k0 := hB 0 _ rfl
      by_cases hlt : k < l.length
      · obtain ⟨b', o', e', g0, g1, g2, _, hnm⟩ := hl.at_ hw k hlt
        simp only [Option.some.injEq, Addr.mk.injEq, and_true] at e'
        obtain ⟨rfl, rfl⟩ := e'
        have ON := fun w => one_any l[k] w hnm
        have AT := fun w h => at_any l[k] l w (some ⟨b, o, none⟩) c hc hm0 h
        have hd : symsErr l (l.drop k) k = if l[k].one ≠ 0 then l[k].one else if syAt l[k] l 0 < k then 113 else symsErr l (l.drop (k + 1)) (k + 1 : Nat) := by
          rw [List.drop_eq_getElem_cons hlt, symsErr]; rfl
        have hx := hx.out.trans hd
        clear hd
        unfold Sy.val at ON AT
        generalize l[k].one = q at *
        generalize syAt l[k] l 0 = p at *
        by_cases hq : q = 0
        · rw [if_neg (by simp [hq])] at hx
          have hqb : (q == 0) = true := by simpa using hq
          by_cases hp : p < k
          · rw [if_pos hp] at hx
            have Hhw := Lib.hid hw
            have HhB := Lib.hid hB
            have Hhx := Lib.hid hx
            clear hw hB hx
            clear hq
            go_wp2_with fail
            refine (ON _).mono ?_
            rintro e w1 ⟨rfl, hb1⟩
            have r0 := cell_regrown (bkeeps hb1 _ _ k0)
            have r1 := cell_regrown (bkeeps hb1 _ _ g0)
            have r2 := cell_regrown (bkeeps hb1 _ _ g1)
            have r3 := cell_regrown (bkeeps hb1 _ _ g2)
            have z0 : (0 : Int) ≤ (k : Int) := by omega
            have z1 : (k : Int) < (l.length : Int) := by omega
            have hw1 := Lib.hid (bstep Hhw.out hb1)
            have hB1 := Lib.hid (HhB.out.below hb1)
            have hl1 := Lib.hid (hl.below hw1.out)
            clear hb1 Hhw HhB hl
            go_wp2_with fail
            refine wp_region_quiet_below (by kernel_rfl) (by kernel_rfl) ?_
            repeat (quiet_step (exact Calls.regrown_of (AT _ (hl1.out.below (below_regrown _ _ _)))))
            refine wpQuiet_nil ?_
            intro _ hw'
            obtain ⟨⟨dq, osq⟩, hw''⟩ := hw'
            subst hw''
            have hbq := below_regrown w1 dq osq
            generalize grow (redrawn w1 dq) osq = wq at hbq ⊢
            go_wp2_with fail
            go_ret
            exact ⟨rint Hhx.out, bstep hw1.out hbq⟩
          · rw [if_neg hp] at hx
            have Hhw := Lib.hid hw
            have HhB := Lib.hid hB
            have Hhx := Lib.hid hx
            clear hw hB hx
            clear hq
            go_wp2_with fail
            refine (ON _).mono ?_
            rintro e w1 ⟨rfl, hb1⟩
            have r0 := cell_regrown (bkeeps hb1 _ _ k0)
            have r1 := cell_regrown (bkeeps hb1 _ _ g0)
            have r2 := cell_regrown (bkeeps hb1 _ _ g1)
            have r3 := cell_regrown (bkeeps hb1 _ _ g2)
            have z0 : (0 : Int) ≤ (k : Int) := by omega
            have z1 : (k : Int) < (l.length : Int) := by omega
            have hw1 := Lib.hid (bstep Hhw.out hb1)
            have hB1 := Lib.hid (HhB.out.below hb1)
            have hl1 := Lib.hid (hl.below hw1.out)
            clear hb1 Hhw HhB hl
            go_wp2_with fail
            refine wp_region_quiet_below (by kernel_rfl) (by kernel_rfl) ?_
            repeat (quiet_step (exact Calls.regrown_of (AT _ (hl1.out.below (below_regrown _ _ _)))))
            refine wpQuiet_nil ?_
            intro _ hw'
            obtain ⟨⟨dq, osq⟩, hw''⟩ := hw'
            subst hw''
            have hbq := below_regrown w1 dq osq
            generalize grow (redrawn w1 dq) osq = wq at hbq ⊢
            go_wp2_with fail
            go_roundw
            case rel => exact ⟨k + 1, by omega, by omega, by go_num, Hhx.out, bstep hw1.out hbq, hB1.out.below hbq⟩
            case measure => simp [intOf]; omega
        · rw [if_pos hq] at hx
          have hqb : (q == 0) = false := by simpa using hq
          have Hhw := Lib.hid hw
          have HhB := Lib.hid hB
          have Hhx := Lib.hid hx
          clear hw hB hx
          clear hq
          go_wp2_with fail
          refine (ON _).mono ?_
          rintro e w1 ⟨rfl, hb1⟩
          go_wp2_with fail
          go_ret
          exact ⟨rint Hhx.out, bstep Hhw.out hb1⟩
      · have HV := Lib.hid (show r = 0 by rw [hx.out, List.drop_eq_nil_of_le (by omega), symsErr])
        go_wp2_with fail
        go_ret
        exact ⟨rint HV.out, hw⟩
  · rw [if_pos (by simpa using h3)] at E
    have HE := Lib.hid E
    have EQ := fun w => neqSy l[0].name truth.name l[0].ar truth.ar l[0].pred truth.pred w
    rw [decide_eq_false (show ¬ (⟨l[0].name, l[0].ar, l[0].pred⟩ : Sy) = ⟨truth.name, truth.ar, truth.pred⟩ from h3)] at EQ
    clear E h3 hhd
    go_enter Try.func38, Try.ntmps38
    go_wp2_with fail
    obtain ⟨B1, hw⟩ := box1 (Below.refl _ (w.alloc (.cells #[.slice a l.length c] 24)))
    generalize w.alloc (.cells #[.slice a l.length c] 24) = W0 at B1 hw ⊢
    have k0 := B1 0 _ rfl
    obtain ⟨b, o, rfl, g0, g1, g2, _, _⟩ := hl.at_ hw 0 h0
    simp only [Nat.zero_mul, Nat.add_zero] at g0 g1 g2
    have r0 := cell_regrown k0
    have r1 := cell_regrown g0
    have r2 := cell_regrown g1
    have r3 := cell_regrown g2
    have Hhw := Lib.hid hw
    have HB1 := Lib.hid B1
    clear hw B1
    refine wp_region_quiet_below (by kernel_rfl) (by kernel_rfl) ?_
    repeat (quiet_step (exact Calls.regrown_of (TR _)))
    refine wpQuiet_nil ?_
    intro _ hw'
    obtain ⟨⟨dq, osq⟩, hw''⟩ := hw'
    subst hw''
    have hbq := below_regrown W0 dq osq
    generalize grow (redrawn W0 dq) osq = wq at hbq ⊢
    go_wp2_with fail
    go_ret
    exact ⟨rint HE.out, bstep Hhw.out hbq⟩
end Go.Proofs.Ytbohlpfndiiimaa

/- The walks through the program of signatures. -/
namespace Go.Proofs.Ytbohlpfndiiimaa
open Go.RowKit Go
set_option linter.unusedVariables false
set_option linter.unusedSimpArgs false
theorem byteOk_eq (c : UInt8) : ((((decide ((97 : Int) ≤ (c.toNat : Int))) && (decide ((c.toNat : Int) ≤ (122 : Int)))) || ((decide ((65 : Int) ≤ (c.toNat : Int))) && (decide ((c.toNat : Int) ≤ (90 : Int))))) || ((decide ((48 : Int) ≤ (c.toNat : Int))) && (decide ((c.toNat : Int) ≤ (57 : Int))))) = ((97 ≤ c && c ≤ 122) || (65 ≤ c && c ≤ 90) || (48 ≤ c && c ≤ 57)) := by
  have h : ∀ a b : UInt8, decide (a ≤ b) = decide ((a.toNat : Int) ≤ (b.toNat : Int)) := fun a b => by rw [decide_eq_decide, UInt8.le_iff_toNat_le]; omega
  simp only [h]; rfl
theorem byteOk_us (c : UInt8) : ((c.toNat : Int) == (95 : Int)) = (c == 95) := by
  rw [Bool.eq_iff_iff, beq_iff_eq, beq_iff_eq, ← UInt8.toNat_inj]
  exact ⟨fun h => by have : c.toNat = 95 := by omega
                     exact this, fun h => by rw [h]; rfl⟩
set_option maxRecDepth 100000 in
theorem letter_any (c : UInt8) (w : World) : Calls Try.prog 72 #[.int .u8 (c.toNat : Int)] w (Ret fun v' w' => v' = .bool (byteOk c) ∧ Below w.heap.size w w') := by
  refine Calls.walk (l := [.int .u8 ((c.toNat : Int))]) Try.func72 rfl (by kernel_rfl) ?_
  refine WC.sub (K' := [(0, .int .u8 ((c.toNat : Int)))]) ⟨rfl, trivial⟩ ?_
  refine WC.seq ?_
  refine WC.region ?_
  refine WL.asg rfl rfl rfl rfl rfl ?_
  refine WL.nil ?_
  refine WE.next ?_
  refine WC.seq ?_
  refine WC.opt [(true, .val (.int .u8 ((c.toNat : Int)))), (true, .val (.bool ((decide ((97 : Int) ≤ ((c.toNat : Int) : Int)))))), (true, .val (.bool ((decide ((97 : Int) ≤ ((c.toNat : Int) : Int)))))), ((true && (decide ((97 : Int) ≤ ((c.toNat : Int) : Int)))), .val (.int .u8 ((c.toNat : Int)))), ((true && (decide ((97 : Int) ≤ ((c.toNat : Int) : Int)))), .val (.bool ((decide (((c.toNat : Int) : Int) ≤ (122 : Int)))))), (true, .val (.bool (((decide ((97 : Int) ≤ ((c.toNat : Int) : Int))) && (decide (((c.toNat : Int) : Int) ≤ (122 : Int))))))), (true, .val (.bool (((decide ((97 : Int) ≤ ((c.toNat : Int) : Int))) && (decide (((c.toNat : Int) : Int) ≤ (122 : Int))))))), ((true && !((decide ((97 : Int) ≤ ((c.toNat : Int) : Int))) && (decide (((c.toNat : Int) : Int) ≤ (122 : Int))))), .val (.int .u8 ((c.toNat : Int)))), ((true && !((decide ((97 : Int) ≤ ((c.toNat : Int) : Int))) && (decide (((c.toNat : Int) : Int) ≤ (122 : Int))))), .val (.bool ((decide ((65 : Int) ≤ ((c.toNat : Int) : Int)))))), ((true && !((decide ((97 : Int) ≤ ((c.toNat : Int) : Int))) && (decide (((c.toNat : Int) : Int) ≤ (122 : Int))))), .val (.bool ((decide ((65 : Int) ≤ ((c.toNat : Int) : Int)))))), (((true && !((decide ((97 : Int) ≤ ((c.toNat : Int) : Int))) && (decide (((c.toNat : Int) : Int) ≤ (122 : Int))))) && (decide ((65 : Int) ≤ ((c.toNat : Int) : Int)))), .val (.int .u8 ((c.toNat : Int)))), (((true && !((decide ((97 : Int) ≤ ((c.toNat : Int) : Int))) && (decide (((c.toNat : Int) : Int) ≤ (122 : Int))))) && (decide ((65 : Int) ≤ ((c.toNat : Int) : Int)))), .val (.bool ((decide (((c.toNat : Int) : Int) ≤ (90 : Int)))))), ((true && !((decide ((97 : Int) ≤ ((c.toNat : Int) : Int))) && (decide (((c.toNat : Int) : Int) ≤ (122 : Int))))), .val (.bool (((decide ((65 : Int) ≤ ((c.toNat : Int) : Int))) && (decide (((c.toNat : Int) : Int) ≤ (90 : Int))))))), (true, .val (.bool ((((decide ((97 : Int) ≤ ((c.toNat : Int) : Int))) && (decide (((c.toNat : Int) : Int) ≤ (122 : Int)))) || ((decide ((65 : Int) ≤ ((c.toNat : Int) : Int))) && (decide (((c.toNat : Int) : Int) ≤ (90 : Int)))))))), (true, .val (.bool ((((decide ((97 : Int) ≤ ((c.toNat : Int) : Int))) && (decide (((c.toNat : Int) : Int) ≤ (122 : Int)))) || ((decide ((65 : Int) ≤ ((c.toNat : Int) : Int))) && (decide (((c.toNat : Int) : Int) ≤ (90 : Int)))))))), ((true && !(((decide ((97 : Int) ≤ ((c.toNat : Int) : Int))) && (decide (((c.toNat : Int) : Int) ≤ (122 : Int)))) || ((decide ((65 : Int) ≤ ((c.toNat : Int) : Int))) && (decide (((c.toNat : Int) : Int) ≤ (90 : Int)))))), .val (.int .u8 ((c.toNat : Int)))), ((true && !(((decide ((97 : Int) ≤ ((c.toNat : Int) : Int))) && (decide (((c.toNat : Int) : Int) ≤ (122 : Int)))) || ((decide ((65 : Int) ≤ ((c.toNat : Int) : Int))) && (decide (((c.toNat : Int) : Int) ≤ (90 : Int)))))), .val (.bool ((decide ((48 : Int) ≤ ((c.toNat : Int) : Int)))))), ((true && !(((decide ((97 : Int) ≤ ((c.toNat : Int) : Int))) && (decide (((c.toNat : Int) : Int) ≤ (122 : Int)))) || ((decide ((65 : Int) ≤ ((c.toNat : Int) : Int))) && (decide (((c.toNat : Int) : Int) ≤ (90 : Int)))))), .val (.bool ((decide ((48 : Int) ≤ ((c.toNat : Int) : Int)))))), (((true && !(((decide ((97 : Int) ≤ ((c.toNat : Int) : Int))) && (decide (((c.toNat : Int) : Int) ≤ (122 : Int)))) || ((decide ((65 : Int) ≤ ((c.toNat : Int) : Int))) && (decide (((c.toNat : Int) : Int) ≤ (90 : Int)))))) && (decide ((48 : Int) ≤ ((c.toNat : Int) : Int)))), .val (.int .u8 ((c.toNat : Int)))), (((true && !(((decide ((97 : Int) ≤ ((c.toNat : Int) : Int))) && (decide (((c.toNat : Int) : Int) ≤ (122 : Int)))) || ((decide ((65 : Int) ≤ ((c.toNat : Int) : Int))) && (decide (((c.toNat : Int) : Int) ≤ (90 : Int)))))) && (decide ((48 : Int) ≤ ((c.toNat : Int) : Int)))), .val (.bool ((decide (((c.toNat : Int) : Int) ≤ (57 : Int)))))), ((true && !(((decide ((97 : Int) ≤ ((c.toNat : Int) : Int))) && (decide (((c.toNat : Int) : Int) ≤ (122 : Int)))) || ((decide ((65 : Int) ≤ ((c.toNat : Int) : Int))) && (decide (((c.toNat : Int) : Int) ≤ (90 : Int)))))), .val (.bool (((decide ((48 : Int) ≤ ((c.toNat : Int) : Int))) && (decide (((c.toNat : Int) : Int) ≤ (57 : Int))))))), (true, .val (.bool (((((decide ((97 : Int) ≤ ((c.toNat : Int) : Int))) && (decide (((c.toNat : Int) : Int) ≤ (122 : Int)))) || ((decide ((65 : Int) ≤ ((c.toNat : Int) : Int))) && (decide (((c.toNat : Int) : Int) ≤ (90 : Int))))) || ((decide ((48 : Int) ≤ ((c.toNat : Int) : Int))) && (decide (((c.toNat : Int) : Int) ≤ (57 : Int)))))))), (true, .val (.bool (((((decide ((97 : Int) ≤ ((c.toNat : Int) : Int))) && (decide (((c.toNat : Int) : Int) ≤ (122 : Int)))) || ((decide ((65 : Int) ≤ ((c.toNat : Int) : Int))) && (decide (((c.toNat : Int) : Int) ≤ (90 : Int))))) || ((decide ((48 : Int) ≤ ((c.toNat : Int) : Int))) && (decide (((c.toNat : Int) : Int) ≤ (57 : Int)))))))), ((true && !((((decide ((97 : Int) ≤ ((c.toNat : Int) : Int))) && (decide (((c.toNat : Int) : Int) ≤ (122 : Int)))) || ((decide ((65 : Int) ≤ ((c.toNat : Int) : Int))) && (decide (((c.toNat : Int) : Int) ≤ (90 : Int))))) || ((decide ((48 : Int) ≤ ((c.toNat : Int) : Int))) && (decide (((c.toNat : Int) : Int) ≤ (57 : Int)))))), .val (.int .u8 ((c.toNat : Int)))), ((true && !((((decide ((97 : Int) ≤ ((c.toNat : Int) : Int))) && (decide (((c.toNat : Int) : Int) ≤ (122 : Int)))) || ((decide ((65 : Int) ≤ ((c.toNat : Int) : Int))) && (decide (((c.toNat : Int) : Int) ≤ (90 : Int))))) || ((decide ((48 : Int) ≤ ((c.toNat : Int) : Int))) && (decide (((c.toNat : Int) : Int) ≤ (57 : Int)))))), .val (.bool ((((c.toNat : Int) : Int) == (95 : Int))))), (true, .val (.bool ((((((decide ((97 : Int) ≤ ((c.toNat : Int) : Int))) && (decide (((c.toNat : Int) : Int) ≤ (122 : Int)))) || ((decide ((65 : Int) ≤ ((c.toNat : Int) : Int))) && (decide (((c.toNat : Int) : Int) ≤ (90 : Int))))) || ((decide ((48 : Int) ≤ ((c.toNat : Int) : Int))) && (decide (((c.toNat : Int) : Int) ≤ (57 : Int))))) || (((c.toNat : Int) : Int) == (95 : Int)))))), (true, .val (.bool ((((((decide ((97 : Int) ≤ ((c.toNat : Int) : Int))) && (decide (((c.toNat : Int) : Int) ≤ (122 : Int)))) || ((decide ((65 : Int) ≤ ((c.toNat : Int) : Int))) && (decide (((c.toNat : Int) : Int) ≤ (90 : Int))))) || ((decide ((48 : Int) ≤ ((c.toNat : Int) : Int))) && (decide (((c.toNat : Int) : Int) ≤ (57 : Int))))) || (((c.toNat : Int) : Int) == (95 : Int))))))] [(0, .int .u8 ((c.toNat : Int)))] ⟨rfl, trivial⟩ (by kernel_rfl) (by kernel_rfl) (by kernel_rfl) ?_ ?_
  · refine ⟨⟨true, .none rfl, fun h w => optUndef h, fun zβ za zw zc => ?_⟩, ?_⟩
    · exact wp_move rfl (zc.kn.ev rfl) ⟨_, rfl, Below.refl _ _, optDef zβ rfl⟩
    refine ⟨⟨true, .none rfl, fun h w => optUndef h, fun zβ za zw zc => ?_⟩, ?_⟩
    · exact geq_5 rfl ((evt za 3).trans (optVal (zc.dep 0 3 (by kernel_rfl)) rfl rfl)) (zc.kn.ev rfl) ⟨_, rfl, Below.refl _ _, optDef zβ rfl⟩
    refine ⟨⟨true, .none rfl, fun h w => optUndef h, fun zβ za zw zc => ?_⟩, ?_⟩
    · exact wp_move rfl ((evt za 4).trans (optVal (zc.dep 1 4 (by kernel_rfl)) rfl rfl)) ⟨_, rfl, Below.refl _ _, optDef zβ rfl⟩
    refine ⟨⟨_, .yes (d := true) rfl (fun v w h => h), fun h w => optUndef h, fun zβ za zw zc => ?_⟩, ?_⟩
    · exact wp_move rfl (zc.kn.ev rfl) ⟨_, rfl, Below.refl _ _, optDef zβ rfl⟩
    refine ⟨⟨_, .yes (d := true) rfl (fun v w h => h), fun h w => optUndef h, fun zβ za zw zc => ?_⟩, ?_⟩
    · exact leq_5 rfl ((evt za 6).trans (optVal (zc.dep 3 6 (by kernel_rfl)) rfl zβ)) (zc.kn.ev rfl) ⟨_, rfl, Below.refl _ _, optDef zβ rfl⟩
    refine ⟨⟨true, .none rfl, fun h w => optUndef h, fun zβ za zw zc => ?_⟩, ?_⟩
    · exact wp_and rfl ((evt za 5).trans (optVal (zc.dep 2 5 (by kernel_rfl)) rfl rfl)) (fun hp => ((evt za 7).trans (optVal (zc.dep 4 7 (by kernel_rfl)) rfl (bMk zβ hp)))) ⟨_, rfl, Below.refl _ _, optDef zβ rfl⟩
    refine ⟨⟨true, .none rfl, fun h w => optUndef h, fun zβ za zw zc => ?_⟩, ?_⟩
    · exact wp_move rfl ((evt za 8).trans (optVal (zc.dep 5 8 (by kernel_rfl)) rfl rfl)) ⟨_, rfl, Below.refl _ _, optDef zβ rfl⟩
    refine ⟨⟨_, .no (d := true) rfl (fun v w h => h), fun h w => optUndef h, fun zβ za zw zc => ?_⟩, ?_⟩
    · exact wp_move rfl (zc.kn.ev rfl) ⟨_, rfl, Below.refl _ _, optDef zβ rfl⟩
    refine ⟨⟨_, .no (d := true) rfl (fun v w h => h), fun h w => optUndef h, fun zβ za zw zc => ?_⟩, ?_⟩
    · exact geq_5 rfl ((evt za 10).trans (optVal (zc.dep 7 10 (by kernel_rfl)) rfl zβ)) (zc.kn.ev rfl) ⟨_, rfl, Below.refl _ _, optDef zβ rfl⟩
    refine ⟨⟨_, .no (d := true) rfl (fun v w h => h), fun h w => optUndef h, fun zβ za zw zc => ?_⟩, ?_⟩
    · exact wp_move rfl ((evt za 11).trans (optVal (zc.dep 8 11 (by kernel_rfl)) rfl zβ)) ⟨_, rfl, Below.refl _ _, optDef zβ rfl⟩
    refine ⟨⟨_, .yes (d := (true && !((decide ((97 : Int) ≤ ((c.toNat : Int) : Int))) && (decide (((c.toNat : Int) : Int) ≤ (122 : Int)))))) rfl (fun v w h => h), fun h w => optUndef h, fun zβ za zw zc => ?_⟩, ?_⟩
    · exact wp_move rfl (zc.kn.ev rfl) ⟨_, rfl, Below.refl _ _, optDef zβ rfl⟩
    refine ⟨⟨_, .yes (d := (true && !((decide ((97 : Int) ≤ ((c.toNat : Int) : Int))) && (decide (((c.toNat : Int) : Int) ≤ (122 : Int)))))) rfl (fun v w h => h), fun h w => optUndef h, fun zβ za zw zc => ?_⟩, ?_⟩
    · exact leq_5 rfl ((evt za 13).trans (optVal (zc.dep 10 13 (by kernel_rfl)) rfl zβ)) (zc.kn.ev rfl) ⟨_, rfl, Below.refl _ _, optDef zβ rfl⟩
    refine ⟨⟨_, .no (d := true) rfl (fun v w h => h), fun h w => optUndef h, fun zβ za zw zc => ?_⟩, ?_⟩
    · exact wp_and rfl ((evt za 12).trans (optVal (zc.dep 9 12 (by kernel_rfl)) rfl zβ)) (fun hp => ((evt za 14).trans (optVal (zc.dep 11 14 (by kernel_rfl)) rfl (bMk zβ hp)))) ⟨_, rfl, Below.refl _ _, optDef zβ rfl⟩
    refine ⟨⟨true, .none rfl, fun h w => optUndef h, fun zβ za zw zc => ?_⟩, ?_⟩
    · exact wp_or rfl ((evt za 9).trans (optVal (zc.dep 6 9 (by kernel_rfl)) rfl rfl)) (fun hp => ((evt za 15).trans (optVal (zc.dep 12 15 (by kernel_rfl)) rfl (bMkN zβ hp)))) ⟨_, rfl, Below.refl _ _, optDef zβ rfl⟩
    refine ⟨⟨true, .none rfl, fun h w => optUndef h, fun zβ za zw zc => ?_⟩, ?_⟩
    · exact wp_move rfl ((evt za 16).trans (optVal (zc.dep 13 16 (by kernel_rfl)) rfl rfl)) ⟨_, rfl, Below.refl _ _, optDef zβ rfl⟩
    refine ⟨⟨_, .no (d := true) rfl (fun v w h => h), fun h w => optUndef h, fun zβ za zw zc => ?_⟩, ?_⟩
    · exact wp_move rfl (zc.kn.ev rfl) ⟨_, rfl, Below.refl _ _, optDef zβ rfl⟩
    refine ⟨⟨_, .no (d := true) rfl (fun v w h => h), fun h w => optUndef h, fun zβ za zw zc => ?_⟩, ?_⟩
    · exact geq_5 rfl ((evt za 18).trans (optVal (zc.dep 15 18 (by kernel_rfl)) rfl zβ)) (zc.kn.ev rfl) ⟨_, rfl, Below.refl _ _, optDef zβ rfl⟩
    refine ⟨⟨_, .no (d := true) rfl (fun v w h => h), fun h w => optUndef h, fun zβ za zw zc => ?_⟩, ?_⟩
    · exact wp_move rfl ((evt za 19).trans (optVal (zc.dep 16 19 (by kernel_rfl)) rfl zβ)) ⟨_, rfl, Below.refl _ _, optDef zβ rfl⟩
    refine ⟨⟨_, .yes (d := (true && !(((decide ((97 : Int) ≤ ((c.toNat : Int) : Int))) && (decide (((c.toNat : Int) : Int) ≤ (122 : Int)))) || ((decide ((65 : Int) ≤ ((c.toNat : Int) : Int))) && (decide (((c.toNat : Int) : Int) ≤ (90 : Int))))))) rfl (fun v w h => h), fun h w => optUndef h, fun zβ za zw zc => ?_⟩, ?_⟩
    · exact wp_move rfl (zc.kn.ev rfl) ⟨_, rfl, Below.refl _ _, optDef zβ rfl⟩
    refine ⟨⟨_, .yes (d := (true && !(((decide ((97 : Int) ≤ ((c.toNat : Int) : Int))) && (decide (((c.toNat : Int) : Int) ≤ (122 : Int)))) || ((decide ((65 : Int) ≤ ((c.toNat : Int) : Int))) && (decide (((c.toNat : Int) : Int) ≤ (90 : Int))))))) rfl (fun v w h => h), fun h w => optUndef h, fun zβ za zw zc => ?_⟩, ?_⟩
    · exact leq_5 rfl ((evt za 21).trans (optVal (zc.dep 18 21 (by kernel_rfl)) rfl zβ)) (zc.kn.ev rfl) ⟨_, rfl, Below.refl _ _, optDef zβ rfl⟩
    refine ⟨⟨_, .no (d := true) rfl (fun v w h => h), fun h w => optUndef h, fun zβ za zw zc => ?_⟩, ?_⟩
    · exact wp_and rfl ((evt za 20).trans (optVal (zc.dep 17 20 (by kernel_rfl)) rfl zβ)) (fun hp => ((evt za 22).trans (optVal (zc.dep 19 22 (by kernel_rfl)) rfl (bMk zβ hp)))) ⟨_, rfl, Below.refl _ _, optDef zβ rfl⟩
    refine ⟨⟨true, .none rfl, fun h w => optUndef h, fun zβ za zw zc => ?_⟩, ?_⟩
    · exact wp_or rfl ((evt za 17).trans (optVal (zc.dep 14 17 (by kernel_rfl)) rfl rfl)) (fun hp => ((evt za 23).trans (optVal (zc.dep 20 23 (by kernel_rfl)) rfl (bMkN zβ hp)))) ⟨_, rfl, Below.refl _ _, optDef zβ rfl⟩
    refine ⟨⟨true, .none rfl, fun h w => optUndef h, fun zβ za zw zc => ?_⟩, ?_⟩
    · exact wp_move rfl ((evt za 24).trans (optVal (zc.dep 21 24 (by kernel_rfl)) rfl rfl)) ⟨_, rfl, Below.refl _ _, optDef zβ rfl⟩
    refine ⟨⟨_, .no (d := true) rfl (fun v w h => h), fun h w => optUndef h, fun zβ za zw zc => ?_⟩, ?_⟩
    · exact wp_move rfl (zc.kn.ev rfl) ⟨_, rfl, Below.refl _ _, optDef zβ rfl⟩
    refine ⟨⟨_, .no (d := true) rfl (fun v w h => h), fun h w => optUndef h, fun zβ za zw zc => ?_⟩, ?_⟩
    · exact eql_5 rfl ((evt za 26).trans (optVal (zc.dep 23 26 (by kernel_rfl)) rfl zβ)) (zc.kn.ev rfl) ⟨_, rfl, Below.refl _ _, optDef zβ rfl⟩
    refine ⟨⟨true, .none rfl, fun h w => optUndef h, fun zβ za zw zc => ?_⟩, ?_⟩
    · exact wp_or rfl ((evt za 25).trans (optVal (zc.dep 22 25 (by kernel_rfl)) rfl rfl)) (fun hp => ((evt za 27).trans (optVal (zc.dep 24 27 (by kernel_rfl)) rfl (bMkN zβ hp)))) ⟨_, rfl, Below.refl _ _, optDef zβ rfl⟩
    refine ⟨⟨true, .none rfl, fun h w => optUndef h, fun zβ za zw zc => ?_⟩, ?_⟩
    · exact wp_assign rfl ((evt za 28).trans (optVal (zc.dep 25 28 (by kernel_rfl)) rfl rfl)) ⟨_, rfl, Below.refl _ _, optDef zβ rfl⟩
    exact trivial
  · intro za w1 zh hb2 zu
    have zh := zh.cons (d := 2) (v := .bool ((((((decide ((97 : Int) ≤ ((c.toNat : Int) : Int))) && (decide (((c.toNat : Int) : Int) ≤ (122 : Int)))) || ((decide ((65 : Int) ≤ ((c.toNat : Int) : Int))) && (decide (((c.toNat : Int) : Int) ≤ (90 : Int))))) || ((decide ((48 : Int) ≤ ((c.toNat : Int) : Int))) && (decide (((c.toNat : Int) : Int) ≤ (57 : Int))))) || (((c.toNat : Int) : Int) == (95 : Int))))) (optVal (zu 26 2 (by kernel_rfl)) rfl rfl)
    clear zu
    refine WE.go zh ?_
    refine WE.next ?_
    refine WC.ret ?_
    refine WE.ret1 rfl rfl ?_
    exact ⟨_, rfl, congrArg Value.bool (by rw [byteOk_eq, byteOk_us]; rfl), hb2⟩
theorem bytes_take {s : ByteArray} {k : Nat} (h : k < s.size) : s.data.toList.take (k + 1) = s.data.toList.take k ++ [s.data.toList.getD k 0] := by
  have h' : k < s.data.toList.length := by simpa using h
  rw [List.take_succ_eq_append_getElem h', List.getD_eq_getElem?_getD, List.getElem?_eq_getElem h']; rfl
set_option maxRecDepth 100000 in
theorem every_any (s : ByteArray) (w : World) (hs : s.size ≤ maxLen) : Calls Try.prog 71 #[.string s, .func (.func 72) #[] #[]] w (Ret fun v' w' => v' = .bool (s.data.toList.all byteOk) ∧ Below w.heap.size w w') := by
  unfold maxLen at hs
  refine Calls.walk (l := [.string s, .func (.func 72) #[] #[]]) Try.func71 rfl (by kernel_rfl) ?_
  refine WC.sub (K' := [(0, .string s), (1, .func (.func 72) #[] #[])]) ⟨rfl, rfl, trivial⟩ ?_
  refine WC.seq ?_
  refine WC.region ?_
  refine WL.asg rfl rfl rfl rfl rfl ?_
  refine WL.nil ?_
  refine WE.next ?_
  refine WC.seq ?_
  refine WC.seq ?_
  refine WC.region ?_
  refine WL.mv rfl rfl rfl rfl rfl ?_
  refine WL.val (.int .i64 (((s.size : Nat) : Int))) rfl rfl rfl (fun za zC zh zk => len_9 rfl (zh.ev rfl) zk) ?_
  refine WL.mv rfl rfl rfl rfl rfl ?_
  refine WL.nil ?_
  refine WE.next ?_
  refine WC.block ?_
  refine WC.loop (X := Nat) (fun k => s.size - k) (fun k => [(0, .string s), (1, .func (.func 72) #[] #[]), (7, .int .i64 (((s.size : Nat) : Int))), (8, .int .i64 (((k : Nat) : Int)))]) (fun k w1 => k ≤ s.size ∧ (s.data.toList.take k).all byteOk = true ∧ Below w.heap.size w w1) 0 ⟨rfl, rfl, rfl, rfl, trivial⟩ ?_ ?_
  · exact ⟨Nat.zero_le _, rfl, (Below.refl _ _)⟩
  · rintro k w1 ⟨hk, hall, hb2⟩
    refine WC.seq ?_
    refine WC.region ?_
    refine WL.val (.bool ((decide ((((k : Nat) : Int) : Int) < (((s.size : Nat) : Int) : Int))))) rfl rfl rfl (fun za zC zh zk => lss_3 rfl (zh.ev rfl) (zh.ev rfl) zk) ?_
    refine WL.nil ?_
    refine WE.next ?_
    refine WC.seq ?_
    refine WC.cond rfl (fun h3 => ?_) (fun h3 => ?_)
    · have h3 : (((k : Nat) : Int) : Int) < (((s.size : Nat) : Int) : Int) := by simpa using h3
      refine WC.skip ?_
      refine WE.next ?_
      refine WC.seq ?_
      refine WC.block ?_
      refine WC.seq ?_
      refine WC.region ?_
      refine WL.mv rfl rfl rfl rfl rfl ?_
      refine WL.asg rfl rfl rfl rfl rfl ?_
      refine WL.nil ?_
      refine WE.next ?_
      refine WC.seq ?_
      refine WC.region ?_
      refine WL.mv rfl rfl rfl rfl rfl ?_
      refine WL.mv rfl rfl rfl rfl rfl ?_
      refine WL.mv rfl rfl rfl rfl rfl ?_
      refine WL.val (.int .u8 ((bget s k))) rfl rfl rfl (fun za zC zh zk => bix_9 (k := k) rfl (zh.ev rfl) (zh.ev rfl) (by first | omega | (simp; omega)) zk) ?_
      refine WL.call rfl rfl rfl (fun za zh zC => wp_callv (by kernel_rfl) rfl (zh.ev rfl) (hv1 (zh.ev rfl))) (letter_any (s.data.toList.getD k 0) _) ?_
      rintro _ w4 ⟨rfl, hbc⟩
      refine WL.val (.bool ((!(byteOk (s.data.toList.getD k 0))))) rfl rfl rfl (fun za zC zh zk => wp_not rfl (zh.ev rfl) zk) ?_
      refine WL.nil ?_
      refine WE.next ?_
      refine WC.cond rfl (fun h5 => ?_) (fun h5 => ?_)
      · have h5 : ¬ ((byteOk (s.data.toList.getD k 0)) = true) := by simpa using h5
        refine WC.seq ?_
        refine WC.region ?_
        refine WL.asg rfl rfl rfl rfl rfl ?_
        refine WL.nil ?_
        refine WE.next ?_
        refine WC.ret ?_
        refine WE.blockRet ?_
        refine WE.thenRet ?_
        refine WE.thenRet ?_
        refine WE.blockRet ?_
        refine WE.thenRet ?_
        refine WE.ret1 rfl rfl ?_
        have hb6 : Below w.heap.size w w4 := (bstep hb2 hbc)
        exact ⟨_, rfl, congrArg Value.bool (by symm; rw [List.all_eq_false]; exact ⟨s.data.toList.getD k 0, by rw [List.getD_eq_getElem?_getD, List.getElem?_eq_getElem (by simpa using (show k < s.size by omega))]; simp, by assumption⟩), hb6⟩
      · have h5 : ¬ (¬ ((byteOk (s.data.toList.getD k 0)) = true)) := by simpa using h5
        refine WC.skip ?_
        refine WE.blockNormal ?_
        refine WE.next ?_
        refine WC.region ?_
        refine WL.val (.int .i64 ((((k + 1) : Nat) : Int))) rfl rfl rfl (fun za zC zh zk => addb_3 rfl (zh.ev rfl) (zh.ev rfl) (wrap_eq (by omega) (by omega) (by omega)) zk) ?_
        refine WL.mv rfl rfl rfl rfl rfl ?_
        refine WL.nil ?_
        refine WE.round (k + 1) ⟨rfl, rfl, rfl, rfl, trivial⟩ ?_ ?_
        · have hb7 : Below w.heap.size w w4 := (bstep hb2 hbc)
          exact ⟨by omega, by rw [bytes_take (by omega), List.all_append, hall]; simp_all, hb7⟩
        · omega
    · have h3 : ¬ ((((k : Nat) : Int) : Int) < (((s.size : Nat) : Int) : Int)) := by simpa using h3
      refine WC.exit ?_
      refine WE.thenExit ?_
      refine WE.thenExit ?_
      refine WE.blockIs rfl ?_
      refine WE.next ?_
      refine WC.seq ?_
      refine WC.region ?_
      refine WL.asg rfl rfl rfl rfl rfl ?_
      refine WL.nil ?_
      refine WE.next ?_
      refine WC.ret ?_
      refine WE.ret1 rfl rfl ?_
      exact ⟨_, rfl, congrArg Value.bool (by rw [List.take_of_length_le (by simp; omega)] at hall; exact hall.symm), hb2⟩
set_option maxRecDepth 100000 in
theorem pnamed_any (s : ByteArray) (w : World) (hs : s.size ≤ maxLen) : Calls Try.prog 64 #[.string s] w (Ret fun v' w' => v' = .bool (named s) ∧ Below w.heap.size w w') := by
  have hs0 := hs
  unfold maxLen at hs
  refine Calls.walk (l := [.string s]) Try.func64 rfl (by kernel_rfl) ?_
  refine WC.sub (K' := [(0, .string s)]) ⟨rfl, trivial⟩ ?_
  refine WC.seq ?_
  refine WC.region ?_
  refine WL.asg rfl rfl rfl rfl rfl ?_
  refine WL.nil ?_
  refine WE.next ?_
  refine WC.seq ?_
  refine WC.opt [(true, .val (.string s)), (true, .val (.bool ((!decide (s = (⟨#[]⟩ : ByteArray)))))), (true, .val (.bool ((!decide (s = (⟨#[]⟩ : ByteArray)))))), ((true && (!decide (s = (⟨#[]⟩ : ByteArray)))), .val (.string s)), ((true && (!decide (s = (⟨#[]⟩ : ByteArray)))), .val (.int .i64 (((s.size : Nat) : Int)))), ((true && (!decide (s = (⟨#[]⟩ : ByteArray)))), .val (.bool ((decide ((((s.size : Nat) : Int) : Int) ≤ (40 : Int)))))), (true, .val (.bool (((!decide (s = (⟨#[]⟩ : ByteArray))) && (decide ((((s.size : Nat) : Int) : Int) ≤ (40 : Int))))))), (true, .val (.bool (((!decide (s = (⟨#[]⟩ : ByteArray))) && (decide ((((s.size : Nat) : Int) : Int) ≤ (40 : Int))))))), ((true && ((!decide (s = (⟨#[]⟩ : ByteArray))) && (decide ((((s.size : Nat) : Int) : Int) ≤ (40 : Int))))), .val (.string s)), ((true && ((!decide (s = (⟨#[]⟩ : ByteArray))) && (decide ((((s.size : Nat) : Int) : Int) ≤ (40 : Int))))), .val (.bool ((s.data.toList.all byteOk)))), (true, .val (.bool ((((!decide (s = (⟨#[]⟩ : ByteArray))) && (decide ((((s.size : Nat) : Int) : Int) ≤ (40 : Int)))) && (s.data.toList.all byteOk))))), (true, .val (.bool ((((!decide (s = (⟨#[]⟩ : ByteArray))) && (decide ((((s.size : Nat) : Int) : Int) ≤ (40 : Int)))) && (s.data.toList.all byteOk)))))] [(0, .string s)] ⟨rfl, trivial⟩ (by kernel_rfl) (by kernel_rfl) (by kernel_rfl) ?_ ?_
  · refine ⟨⟨true, .none rfl, fun h w => optUndef h, fun zβ za zw zc => ?_⟩, ?_⟩
    · exact wp_move rfl (zc.kn.ev rfl) ⟨_, rfl, Below.refl _ _, optDef zβ rfl⟩
    refine ⟨⟨true, .none rfl, fun h w => optUndef h, fun zβ za zw zc => ?_⟩, ?_⟩
    · exact neq_9 rfl ((evt za 3).trans (optVal (zc.dep 0 3 (by kernel_rfl)) rfl rfl)) (zc.kn.ev rfl) ⟨_, rfl, Below.refl _ _, optDef zβ rfl⟩
    refine ⟨⟨true, .none rfl, fun h w => optUndef h, fun zβ za zw zc => ?_⟩, ?_⟩
    · exact wp_move rfl ((evt za 4).trans (optVal (zc.dep 1 4 (by kernel_rfl)) rfl rfl)) ⟨_, rfl, Below.refl _ _, optDef zβ rfl⟩
    refine ⟨⟨_, .yes (d := true) rfl (fun v w h => h), fun h w => optUndef h, fun zβ za zw zc => ?_⟩, ?_⟩
    · exact wp_move rfl (zc.kn.ev rfl) ⟨_, rfl, Below.refl _ _, optDef zβ rfl⟩
    refine ⟨⟨_, .yes (d := true) rfl (fun v w h => h), fun h w => optUndef h, fun zβ za zw zc => ?_⟩, ?_⟩
    · exact len_9 rfl ((evt za 6).trans (optVal (zc.dep 3 6 (by kernel_rfl)) rfl zβ)) ⟨_, rfl, Below.refl _ _, optDef zβ rfl⟩
    refine ⟨⟨_, .yes (d := true) rfl (fun v w h => h), fun h w => optUndef h, fun zβ za zw zc => ?_⟩, ?_⟩
    · exact leq_3 rfl ((evt za 7).trans (optVal (zc.dep 4 7 (by kernel_rfl)) rfl zβ)) (zc.kn.ev rfl) ⟨_, rfl, Below.refl _ _, optDef zβ rfl⟩
    refine ⟨⟨true, .none rfl, fun h w => optUndef h, fun zβ za zw zc => ?_⟩, ?_⟩
    · exact wp_and rfl ((evt za 5).trans (optVal (zc.dep 2 5 (by kernel_rfl)) rfl rfl)) (fun hp => ((evt za 8).trans (optVal (zc.dep 5 8 (by kernel_rfl)) rfl (bMk zβ hp)))) ⟨_, rfl, Below.refl _ _, optDef zβ rfl⟩
    refine ⟨⟨true, .none rfl, fun h w => optUndef h, fun zβ za zw zc => ?_⟩, ?_⟩
    · exact wp_move rfl ((evt za 9).trans (optVal (zc.dep 6 9 (by kernel_rfl)) rfl rfl)) ⟨_, rfl, Below.refl _ _, optDef zβ rfl⟩
    refine ⟨⟨_, .yes (d := true) rfl (fun v w h => h), fun h w => optUndef h, fun zβ za zw zc => ?_⟩, ?_⟩
    · exact wp_move rfl (zc.kn.ev rfl) ⟨_, rfl, Below.refl _ _, optDef zβ rfl⟩
    refine ⟨⟨_, .yes (d := true) rfl (fun v w h => h), fun h w => optUndef h, fun zβ za zw zc => ?_⟩, ?_⟩
    · exact wp_call (by kernel_rfl) rfl (hv2 ((evt za 11).trans (optVal (zc.dep 8 11 (by kernel_rfl)) rfl zβ)) (zc.kn.ev rfl)) (every_any s _ hs0) (fun v w' h => ⟨v, rfl, h.2, optDef zβ h.1⟩)
    refine ⟨⟨true, .none rfl, fun h w => optUndef h, fun zβ za zw zc => ?_⟩, ?_⟩
    · exact wp_and rfl ((evt za 10).trans (optVal (zc.dep 7 10 (by kernel_rfl)) rfl rfl)) (fun hp => ((evt za 12).trans (optVal (zc.dep 9 12 (by kernel_rfl)) rfl (bMk zβ hp)))) ⟨_, rfl, Below.refl _ _, optDef zβ rfl⟩
    refine ⟨⟨true, .none rfl, fun h w => optUndef h, fun zβ za zw zc => ?_⟩, ?_⟩
    · exact wp_assign rfl ((evt za 13).trans (optVal (zc.dep 10 13 (by kernel_rfl)) rfl rfl)) ⟨_, rfl, Below.refl _ _, optDef zβ rfl⟩
    exact trivial
  · intro za w1 zh hb2 zu
    have zh := zh.cons (d := 2) (v := .bool ((((!decide (s = (⟨#[]⟩ : ByteArray))) && (decide ((((s.size : Nat) : Int) : Int) ≤ (40 : Int)))) && (s.data.toList.all byteOk)))) (optVal (zu 11 2 (by kernel_rfl)) rfl rfl)
    clear zu
    refine WE.go zh ?_
    refine WE.next ?_
    refine WC.ret ?_
    refine WE.ret1 rfl rfl ?_
    refine ⟨_, rfl, congrArg Value.bool ?_, hb2⟩
    unfold named
    congr 1
    rw [Bool.eq_iff_iff]
    simp only [Bool.and_eq_true, Bool.not_eq_true', decide_eq_true_eq, decide_eq_false_iff_not]
    have e : s = ⟨#[]⟩ ↔ s.size = 0 := ⟨fun h => by rw [h]; rfl, fun h => ByteArray.ext (Array.eq_empty_of_size_eq_zero h)⟩
    rw [e]
    omega
set_option maxRecDepth 100000 in
theorem pone_any (x : Sy) (w : World) (hs : x.name.size ≤ maxLen) : Calls Try.prog 50 #[x.val] w (Ret fun v' w' => v' = .int .i64 x.one ∧ Below w.heap.size w w') := by
  unfold Sy.val
  refine Calls.walk (l := [.agg #[.string x.name, .int .i64 x.ar, .bool x.pred]]) Try.func50 rfl (by kernel_rfl) ?_
  refine WC.sub (K' := [(0, .agg #[.string x.name, .int .i64 x.ar, .bool x.pred])]) ⟨rfl, trivial⟩ ?_
  refine WC.seq ?_
  refine WC.region ?_
  refine WL.step (post := NewBlk w 66 #[.string x.name, .int .i64 x.ar, .bool x.pred]) rfl rfl rfl (fun za zC zh zk => box_66 rfl (zh.ev rfl) (zk _ _ (newBlk _ _ _))) ?_
  rintro _ w1 ⟨g2, rfl, hg3, hB4, hb5, hz6⟩
  have hl7 : w.heap.size ≤ g2 := by omega
  refine WL.asg rfl rfl rfl rfl rfl ?_
  refine WL.nil ?_
  refine WE.next ?_
  refine WC.seq ?_
  refine WC.block ?_
  refine WC.seq ?_
  refine WC.region ?_
  refine WL.val _ rfl rfl rfl (fun za zC zh zk => fld_66_0 rfl (zh.ev rfl) zk) ?_
  refine WL.val _ rfl rfl rfl (fun za zC zh zk => ld_9 rfl (zh.ev rfl) ((hB4.cell 0).trans rfl) zk) ?_
  refine WL.call rfl rfl rfl (fun za zh zC => wp_call (by kernel_rfl) rfl (hv1 (zh.ev rfl))) (pnamed_any _ _ hs) ?_
  rintro _ w8 ⟨rfl, hbc⟩
  refine WL.val (.bool ((!(named x.name)))) rfl rfl rfl (fun za zC zh zk => wp_not rfl (zh.ev rfl) zk) ?_
  refine WL.asg rfl rfl rfl rfl rfl ?_
  refine WL.nil ?_
  refine WE.next ?_
  refine WC.cond rfl (fun h9 => ?_) (fun h9 => ?_)
  · have h9 : ¬ ((named x.name) = true) := by simpa using h9
    refine WC.seq ?_
    refine WC.region ?_
    refine WL.asg rfl rfl rfl rfl rfl ?_
    refine WL.nil ?_
    refine WE.next ?_
    refine WC.ret ?_
    refine WE.blockRet ?_
    refine WE.thenRet ?_
    refine WE.ret1 rfl rfl ?_
    have hb10 : Below w.heap.size w w8 := (bstep hb5 hbc)
    refine ⟨_, rfl, congrArg (Value.int .i64) ?_, hb10⟩
    unfold Sy.one
    simp_all
  · have h9 : ¬ (¬ ((named x.name) = true)) := by simpa using h9
    refine WC.seq ?_
    have hB11 := hB4.below hbc
    refine WC.opt [(true, .val (.pointer (some ⟨g2, 1, none⟩))), (true, .val (.int .i64 x.ar)), (true, .val (.bool ((decide ((x.ar : Int) < (0 : Int)))))), (true, .val (.bool ((decide ((x.ar : Int) < (0 : Int)))))), ((true && !(decide ((x.ar : Int) < (0 : Int)))), .val (.pointer (some ⟨g2, 1, none⟩))), ((true && !(decide ((x.ar : Int) < (0 : Int)))), .val (.int .i64 x.ar)), ((true && !(decide ((x.ar : Int) < (0 : Int)))), .val (.bool ((decide ((6 : Int) < (x.ar : Int)))))), (true, .val (.bool (((decide ((x.ar : Int) < (0 : Int))) || (decide ((6 : Int) < (x.ar : Int))))))), (true, .val (.bool (((decide ((x.ar : Int) < (0 : Int))) || (decide ((6 : Int) < (x.ar : Int)))))))] [(0, .agg #[.string x.name, .int .i64 x.ar, .bool x.pred]), (1, .pointer (some ⟨g2, 0, none⟩)), (2, .int .i64 0), (3, .bool ((!(named x.name))))] ⟨rfl, rfl, rfl, rfl, trivial⟩ (by kernel_rfl) (by kernel_rfl) (by kernel_rfl) ?_ ?_
    · refine ⟨⟨true, .none rfl, fun h w => optUndef h, fun zβ za zw zc => ?_⟩, ?_⟩
      · exact fld_66_1 rfl (zc.kn.ev rfl) ⟨_, rfl, Below.refl _ _, optDef zβ rfl⟩
      refine ⟨⟨true, .none rfl, fun h w => optUndef h, fun zβ za zw zc => ?_⟩, ?_⟩
      · exact ld_3 rfl ((evt za 9).trans (optVal (zc.dep 0 9 (by kernel_rfl)) rfl rfl)) (bkeeps zc.below _ _ ((hB11.cell 1).trans rfl)) ⟨_, rfl, Below.refl _ _, optDef zβ rfl⟩
      refine ⟨⟨true, .none rfl, fun h w => optUndef h, fun zβ za zw zc => ?_⟩, ?_⟩
      · exact lss_3 rfl ((evt za 10).trans (optVal (zc.dep 1 10 (by kernel_rfl)) rfl rfl)) (zc.kn.ev rfl) ⟨_, rfl, Below.refl _ _, optDef zβ rfl⟩
      refine ⟨⟨true, .none rfl, fun h w => optUndef h, fun zβ za zw zc => ?_⟩, ?_⟩
      · exact wp_move rfl ((evt za 11).trans (optVal (zc.dep 2 11 (by kernel_rfl)) rfl rfl)) ⟨_, rfl, Below.refl _ _, optDef zβ rfl⟩
      refine ⟨⟨_, .no (d := true) rfl (fun v w h => h), fun h w => optUndef h, fun zβ za zw zc => ?_⟩, ?_⟩
      · exact fld_66_1 rfl (zc.kn.ev rfl) ⟨_, rfl, Below.refl _ _, optDef zβ rfl⟩
      refine ⟨⟨_, .no (d := true) rfl (fun v w h => h), fun h w => optUndef h, fun zβ za zw zc => ?_⟩, ?_⟩
      · exact ld_3 rfl ((evt za 13).trans (optVal (zc.dep 4 13 (by kernel_rfl)) rfl zβ)) (bkeeps zc.below _ _ ((hB11.cell 1).trans rfl)) ⟨_, rfl, Below.refl _ _, optDef zβ rfl⟩
      refine ⟨⟨_, .no (d := true) rfl (fun v w h => h), fun h w => optUndef h, fun zβ za zw zc => ?_⟩, ?_⟩
      · exact gtr_3 rfl ((evt za 14).trans (optVal (zc.dep 5 14 (by kernel_rfl)) rfl zβ)) (zc.kn.ev rfl) ⟨_, rfl, Below.refl _ _, optDef zβ rfl⟩
      refine ⟨⟨true, .none rfl, fun h w => optUndef h, fun zβ za zw zc => ?_⟩, ?_⟩
      · exact wp_or rfl ((evt za 12).trans (optVal (zc.dep 3 12 (by kernel_rfl)) rfl rfl)) (fun hp => ((evt za 15).trans (optVal (zc.dep 6 15 (by kernel_rfl)) rfl (bMkN zβ hp)))) ⟨_, rfl, Below.refl _ _, optDef zβ rfl⟩
      refine ⟨⟨true, .none rfl, fun h w => optUndef h, fun zβ za zw zc => ?_⟩, ?_⟩
      · exact wp_assign rfl ((evt za 16).trans (optVal (zc.dep 7 16 (by kernel_rfl)) rfl rfl)) ⟨_, rfl, Below.refl _ _, optDef zβ rfl⟩
      exact trivial
    · intro za w12 zh hb13 zu
      have zh := zh.cons (d := 8) (v := .bool (((decide ((x.ar : Int) < (0 : Int))) || (decide ((6 : Int) < (x.ar : Int)))))) (optVal (zu 8 8 (by kernel_rfl)) rfl rfl)
      clear zu
      refine WE.go zh ?_
      refine WE.next ?_
      refine WC.cond rfl (fun h14 => ?_) (fun h14 => ?_)
      · have h14 : ((x.ar : Int) < (0 : Int)) ∨ ((6 : Int) < (x.ar : Int)) := by simpa using h14
        refine WC.seq ?_
        refine WC.region ?_
        refine WL.asg rfl rfl rfl rfl rfl ?_
        refine WL.nil ?_
        refine WE.next ?_
        refine WC.ret ?_
        refine WE.blockRet ?_
        refine WE.thenRet ?_
        refine WE.ret1 rfl rfl ?_
        have hb15 : Below w.heap.size w w12 := (bstep (bstep hb5 hbc) hb13)
        refine ⟨_, rfl, congrArg (Value.int .i64) ?_, hb15⟩
        unfold Sy.one
        simp_all
      · have h14 : ¬ (((x.ar : Int) < (0 : Int)) ∨ ((6 : Int) < (x.ar : Int))) := by simpa using h14
        refine WC.skip ?_
        refine WE.blockNormal ?_
        refine WE.next ?_
        refine WC.seq ?_
        refine WC.region ?_
        refine WL.asg rfl rfl rfl rfl rfl ?_
        refine WL.nil ?_
        refine WE.next ?_
        refine WC.ret ?_
        refine WE.ret1 rfl rfl ?_
        have hb16 : Below w.heap.size w w12 := (bstep (bstep hb5 hbc) hb13)
        refine ⟨_, rfl, congrArg (Value.int .i64) ?_, hb16⟩
        unfold Sy.one
        simp_all
set_option maxRecDepth 100000 in
theorem ptruth_any (w : World) : Calls Try.prog 49 #[] w (Ret fun v' w' => v' = truth.val ∧ Below w.heap.size w w') := by
  refine Calls.walk (l := []) Try.func49 rfl (by kernel_rfl) ?_
  refine WC.sub (K' := []) trivial ?_
  refine WC.seq ?_
  refine WC.region ?_
  refine WL.step (post := NewBlk w 66 #[.string (⟨#[]⟩), .int .i64 0, .bool false]) rfl rfl rfl (fun za zC zh zk => alloc_66 rfl (zk _ _ (newBlk _ _ _))) ?_
  rintro _ w1 ⟨g2, rfl, hg3, hB4, hb5, hz6⟩
  have hl7 : w.heap.size ≤ g2 := by omega
  refine WL.nil ?_
  refine WE.next ?_
  refine WC.seq ?_
  refine WC.region ?_
  refine WL.val (.agg #[.string ((⟨#[36, 116, 114, 117, 101]⟩ : ByteArray)), .int .i64 0, .bool true]) rfl rfl rfl (fun za zC zh zk => build_66_0_2 rfl (zh.ev rfl) (zh.ev rfl) zk) ?_
  refine WL.step (post := fun _ w' => Upd g2 w1 w' ∧ Blk w' g2 66 #[.string ((⟨#[36, 116, 114, 117, 101]⟩ : ByteArray)), .int .i64 0, .bool true]) rfl rfl rfl (fun za zC zh zk => st_66 rfl (zh.ev rfl) (zh.ev rfl) rfl rfl rfl hB4 (by first | decide | simp) (fun v => zk v _ ⟨((Upd.at_ _ _ _ _).trans (Upd.at_ _ _ _ _)).trans (Upd.at_ _ _ _ _), ((hB4.set_ 0 _).set_ 1 _).set_ 2 _⟩)) ?_
  rintro v11 w8 ⟨hu9, hB10⟩
  have hb12 := upd_below hb5 hu9 (by omega)
  refine WL.nil ?_
  refine WE.next ?_
  refine WC.ret ?_
  refine WE.retAny (v := .agg #[.string ((⟨#[36, 116, 114, 117, 101]⟩ : ByteArray)), .int .i64 0, .bool true]) (fun za zh => ?_) ?_
  · have z0 : za.tmps[0]?.getD undef = .pointer (some ⟨g2, 0, none⟩) := by rw [← Array.getD_eq_getD_getElem?]; exact zh.knows 0 _ rfl
    have y0 : w8.cell? ⟨g2, 0, none⟩ = some (.string ((⟨#[36, 116, 114, 117, 101]⟩ : ByteArray))) := ((hB10.cell 0).trans rfl)
    have y1 : w8.cell? ⟨g2, 1, none⟩ = some (.int .i64 0) := ((hB10.cell 1).trans rfl)
    have y2 : w8.cell? ⟨g2, 2, none⟩ = some (.bool true) := ((hB10.cell 2).trans rfl)
    simp [results, Try.results49, z0, y0, y1, y2, go_sem]
  · exact ⟨_, rfl, rfl, hb12⟩
end Go.Proofs.Ytbohlpfndiiimaa

/- Maps keyed by symbols. -/
namespace Go.Proofs.Ytbohlpfndiiimaa
open Go.RowKit Go
theorem run_equal_sy (x y : Sy) (w : World) : (Op.equal 66 x.val y.val).run Try.prog w = .ok (decide (x = y)) w := by
  have h := eqSy x.name y.name x.ar y.ar x.pred y.pred w
  have e : (binOp .eql 66 x.val y.val).run Try.prog w = ((Op.equal 66 x.val y.val).run Try.prog w).andThen fun b w' => .ok (.bool b) w' := by
    simp [binOp, Sy.val]
  unfold Sy.val at *
  rw [e] at h
  cases hr : (Op.equal 66 (.agg #[.string x.name, .int .i64 x.ar, .bool x.pred]) (.agg #[.string y.name, .int .i64 y.ar, .bool y.pred])).run Try.prog w with
  | ok b w' =>
    rw [hr] at h
    simp only [Result.andThen_ok, Result.ok.injEq, Value.bool.injEq] at h ⊢
    exact h
  | halt z w' => rw [hr] at h; simp [Result.andThen] at h
set_option maxRecDepth 20000 in
theorem run_checkKey_sy (b : Bool) (x : Sy) (w : World) : (Instr.checkKey b 10000 66 x.val).run Try.prog w = .ok () w := by
  have u0 := Try.underlying66
  have u1 := Try.underlying9
  have u2 := Try.underlying3
  have u3 := Try.underlying4
  rw [show (10000 : Nat) = 9998 + 1 + 1 from rfl]
  generalize (9998 : Nat) = n
  unfold Sy.val
  simp [Instr.checkKey, run_underlying u0, run_underlying u1, run_underlying u2, run_underlying u3, go_sem]
theorem run_getObj_map (P : Program) (w : World) (r : Nat) (es : Array MapEntry) (clock : Nat) (h : w.heap[r]? = some (.map es clock)) : (getObj r).run P w = .ok (.map es clock) w := by
  simp [getObj, Sem.run, h]
/-- A map's keys are these symbols. -/
def MapSy (w : World) (r : Nat) (L : List Sy) : Prop := ∃ es clock, w.heap[r]? = some (.map es clock) ∧ es.toList.map (fun e => e.key) = L.map Sy.val ∧ ∀ e ∈ es.toList, ∃ n, e.val = .int .i64 n
theorem run_findAsking_sy (x : Sy) (w : World) : ∀ (es : List MapEntry) (L : List Sy) (i : Nat), es.map (fun e => e.key) = L.map Sy.val → (∀ e ∈ es, ∃ n, e.val = .int .i64 n) →
    ∃ r, (Instr.findAsking 66 x.val es i).run Try.prog w = .ok r w ∧ (x ∉ L → r = none) ∧ (x ∈ L → ∃ j n, r = some (j, .int .i64 n) ∧ i ≤ j ∧ ∃ e, es[j - i]? = some e ∧ e.key = x.val)
  | [], L, i, h, _ => by
    have : L = [] := by simpa using h.symm
    subst this
    exact ⟨none, by simp [Instr.findAsking], fun _ => rfl, fun h => by simp at h⟩
  | e :: es, [], i, h, _ => by simp at h
  | e :: es, y :: L, i, h, hv => by
    simp only [List.map_cons, List.cons.injEq] at h
    obtain ⟨hk, h⟩ := h
    unfold Instr.findAsking
    simp only [Sem.run_bind, hk, run_equal_sy, Result.andThen_ok]
    by_cases hxy : x = y
    · subst hxy
      obtain ⟨n, hn⟩ := hv e (by simp)
      refine ⟨some (i, e.val), by simp, fun h => by simp at h, fun _ => ⟨i, n, by rw [hn], Nat.le_refl _, e, by simp, hk⟩⟩
    · obtain ⟨r, h1, h2, h3⟩ := run_findAsking_sy x w es L (i + 1) h (fun e he => hv e (by simp [he]))
      refine ⟨r, by simpa [hxy] using h1, fun hx => h2 (fun hx' => hx (by simp [hx'])), fun hx => ?_⟩
      obtain ⟨j, n, h4, h5, e', h6, h7⟩ := h3 (by simpa [hxy] using hx)
      refine ⟨j, n, h4, by omega, e', ?_, h7⟩
      rw [show j - i = (j - (i + 1)) + 1 by omega]; simpa using h6
theorem run_findKey_sy (x : Sy) (w : World) (es : List MapEntry) (L : List Sy) (h : es.map (fun e => e.key) = L.map Sy.val) (hv : ∀ e ∈ es, ∃ n, e.val = .int .i64 n) :
    ∃ r, (Instr.findKey 66 x.val es).run Try.prog w = .ok r w ∧ (x ∉ L → r = none) ∧ (x ∈ L → ∃ j n, r = some (j, .int .i64 n) ∧ ∃ e, es[j]? = some e ∧ e.key = x.val) := by
  have u0 := Try.underlying66
  cases es with
  | nil =>
    have : L = [] := by simpa using h.symm
    subst this
    exact ⟨none, by simp [Instr.findKey, run_underlying u0, Instr.findNow], fun _ => rfl, fun h => by simp at h⟩
  | cons e es =>
    obtain ⟨r, h1, h2, h3⟩ := run_findAsking_sy x w (e :: es) L 0 h hv
    refine ⟨r, ?_, h2, fun hx => ?_⟩
    · have hs : Instr.findNow (.struct (Try.prog.fieldsOf 66)) x.val (e :: es) 0 = none := by
        simp [Instr.findNow, Instr.sameNow]
      have hU : Try.prog.underlying 66 = some (.struct (Try.prog.fieldsOf 66)) := by kernel_rfl
      unfold Instr.findKey
      simp only [Sem.run_bind, run_underlying hU, Result.andThen_ok, hs]
      exact h1
    · obtain ⟨j, n, h4, _, e', h5, h6⟩ := h3 hx
      exact ⟨j, n, h4, e', by simpa using h5, h6⟩
section
variable {w : World} {a : Act} {K : Act → World → Prop} {Q : Exit → Act → World → Prop} {o : Oper}
theorem wp_lookup_sy {x y : Operand} {r : Nat} {L : List Sy} {s : Sy} (ho : o.op = .lookup 93 x y true) (hx : a.eval x = .map (some r)) (hy : a.eval y = s.val) (hM : MapSy w r L)
    (hK : ∀ n, K (a.put o.dst (.tuple #[.int .i64 n, .bool (decide (s ∈ L))])) w) : o.wp Try.prog a w K Q := by
  obtain ⟨es, clock, h1, h2, h3⟩ := hM
  obtain ⟨r0, h4, h5, h6⟩ := run_findKey_sy s w es.toList L h2 h3
  have um := Try.underlying93
  have hg : (getObj r).run Try.prog w = .ok (.map es clock) w := by rw [run_getObj_map _ _ _ _ _ h1]
  have hi : (Try.prog.info? 3).map (fun i => i.zero) = some (some (.int .i64 0)) := by kernel_rfl
  unfold Oper.wp execOp
  simp only [ho, hx, hy, Instr.lookup, Sem.run_bind, Sem.run_pure, run_underlying um, Result.andThen_ok, hg, run_checkKey_sy, h4]
  by_cases hs : s ∈ L
  · obtain ⟨j, n, rfl, _⟩ := h6 hs
    have := hK n
    simp only [hs, decide_true] at this
    simp
    exact this
  · rw [h5 hs]
    have := hK 0
    simp only [hs, decide_false] at this
    go_simp
    exact this
theorem wp_mapUpdate_sy {x y z : Operand} {r : Nat} {L : List Sy} {s : Sy} {n : Int} (ho : o.op = .mapUpdate 93 x y z) (hx : a.eval x = .map (some r)) (hy : a.eval y = s.val) (hz : a.eval z = .int .i64 n) (hM : MapSy w r L) (hs : s ∉ L)
    (hK : ∀ v w', MapSy w' r (L ++ [s]) → Upd r w w' → K (a.put o.dst v) w') : o.wp Try.prog a w K Q := by
  obtain ⟨es, clock, h1, h2, h3⟩ := hM
  obtain ⟨r0, h4, h5, h6⟩ := run_findKey_sy s w es.toList L h2 h3
  have um := Try.underlying93
  have hg := run_getObj_map Try.prog w r es clock h1
  obtain rfl := h5 hs
  have hset : (setObj r (.map (es.push { key := s.val, val := .int .i64 n, born := clock }) (clock + 1))).run Try.prog w = .ok () { w with heap := w.heap.setIfInBounds r (.map (es.push { key := s.val, val := .int .i64 n, born := clock }) (clock + 1)) } := by
    simp [setObj, Sem.run, h1]
  have hlt : r < w.heap.size := (Array.getElem?_eq_some_iff.1 h1).1
  have := hK undef { w with heap := w.heap.setIfInBounds r (.map (es.push { key := s.val, val := .int .i64 n, born := clock }) (clock + 1)) } ⟨es.push { key := s.val, val := .int .i64 n, born := clock }, clock + 1, by simp [hlt], by simp [h2], fun e he => by
    simp only [Array.toList_push, List.mem_append, List.mem_singleton] at he
    rcases he with he | rfl
    · exact h3 e he
    · exact ⟨n, rfl⟩⟩ ⟨rfl, rfl, rfl, by simp, fun k hk => by simp [Ne.symm hk]⟩
  unfold Oper.wp execOp
  simp only [ho, hx, hy, hz, Instr.mapUpdate, Sem.run_bind, Sem.run_pure, run_underlying um, Result.andThen_ok, hg, run_checkKey_sy, h4, hset]
  exact this
/-- A new map. -/
def NewMapSy (w : World) (v : Value) (w' : World) : Prop := ∃ g, v = .map (some g) ∧ w.heap.size = g ∧ MapSy w' g [] ∧ Below w.heap.size w w' ∧ w'.heap.size = g + 1
theorem wp_makeMap_sy (ho : o.op = .makeMap 93 none) (hK : ∀ v w', NewMapSy w v w' → K (a.put o.dst v) w') : o.wp Try.prog a w K Q := by
  have := hK (.map (some w.heap.size)) (w.alloc (.map #[] 0)) ⟨_, rfl, rfl, ⟨#[], 0, heap_alloc_new w _, rfl, fun e he => by simp at he⟩, balloc _ _, by simp⟩
  unfold Oper.wp execOp
  simp only [ho]
  go_simp
  exact this
theorem wp_neq_sy {x y : Operand} {s t : Sy} (ho : o.op = .binOp .neq 66 x y 66) (hx : a.eval x = s.val) (hy : a.eval y = t.val) (hK : K (a.put o.dst (.bool (!decide (s = t)))) w) : o.wp Try.prog a w K Q := by
  have h := neqSy s.name t.name s.ar t.ar s.pred t.pred w
  have hg := guardSy .neq x y #[.string s.name, .int .i64 s.ar, .bool s.pred] #[.string t.name, .int .i64 t.ar, .bool t.pred] w
  unfold Sy.val at *
  unfold Oper.wp execOp
  simp only [ho, hx, hy, Sem.run_bind, Sem.run_pure, hg, h, Result.andThen_ok]
  exact hK
end
theorem MapSy.lt {w : World} {r : Nat} {L : List Sy} (h : MapSy w r L) : r < w.heap.size := by
  obtain ⟨es, clock, h1, _⟩ := h
  exact (Array.getElem?_eq_some_iff.1 h1).1
theorem MapSy.below {w w' : World} {r : Nat} {L : List Sy} (h : MapSy w r L) (hb : Below w.heap.size w w') : MapSy w' r L := by
  obtain ⟨es, clock, h1, h2, h3⟩ := h
  exact ⟨es, clock, (hb.block r (Array.getElem?_eq_some_iff.1 h1).1).trans h1, h2, h3⟩
theorem MapSy.upd {w w' : World} {r g : Nat} {L : List Sy} (h : MapSy w r L) (hu : Upd g w w') (hne : r ≠ g) : MapSy w' r L := by
  obtain ⟨es, clock, h1, h2, h3⟩ := h
  exact ⟨es, clock, (hu.block r hne).trans h1, h2, h3⟩
end Go.Proofs.Ytbohlpfndiiimaa

namespace Go.Proofs.Ytbohlpfndiiimaa
/-- The first error among symbols, some of which have been met. -/
def metErr (seen : List Sy) : List Sy → Int
  | [] => 0
  | x :: r => if x.one ≠ 0 then x.one else if x ∈ seen then 113 else metErr (seen ++ [x]) r
theorem syAt_mem (x : Sy) : ∀ (l : List Sy) (k : Int), 0 ≤ k → (x ∈ l → k ≤ syAt x l k) ∧ (x ∉ l → syAt x l k = -1) := by
  intro l
  induction l with
  | nil => intro k _; simp [syAt]
  | cons y l ih =>
    intro k hk
    rw [syAt]
    split
    · rename_i h; subst h; simp
    · rename_i h
      obtain ⟨h1, h2⟩ := ih (k + 1) (by omega)
      have hne : ¬ x = y := fun e => h e.symm
      simp only [List.mem_cons, hne, false_or]
      exact ⟨fun hx => by have := h1 hx; omega, h2⟩
theorem syAt_found (x : Sy) : ∀ (l r : List Sy) (k : Int), 0 ≤ k → x ∈ l ++ r → (syAt x (l ++ r) k < k + l.length ↔ x ∈ l) := by
  intro l
  induction l with
  | nil => intro r k hk hx; have := (syAt_mem x r k hk).1 (by simpa using hx); simp; omega
  | cons y l ih =>
    intro r k hk hx
    rw [List.cons_append, syAt]
    split
    · rename_i h; subst h; simp; omega
    · rename_i h
      have hne : ¬ x = y := fun e => h e.symm
      have hx' : x ∈ l ++ r := by simpa [hne] using hx
      have := ih r (k + 1) (by omega) hx'
      rw [show k + ((y :: l).length : Int) = k + 1 + l.length by simp; omega, this]
      simp [hne]
theorem truth_one : truth.one ≠ 0 := by decide +kernel
theorem metErr_symsErr (all : List Sy) : ∀ (rest seen : List Sy), all = truth :: seen ++ rest → symsErr all rest (1 + seen.length) = metErr seen rest := by
  intro rest
  induction rest with
  | nil => intro _ _; rfl
  | cons x r ih =>
    intro seen h
    rw [symsErr, metErr]
    by_cases h1 : x.one ≠ 0
    · rw [if_pos h1, if_pos h1]
    · rw [if_neg h1, if_neg h1]
      have hne : x ≠ truth := fun e => h1 (e ▸ truth_one)
      have h2 := syAt_found x (truth :: seen) (x :: r) 0 (Int.le_refl _) (by simp)
      have e : (0 : Int) + ((truth :: seen).length : Int) = 1 + seen.length := by simp; omega
      rw [e, ← h] at h2
      simp only [List.mem_cons, hne, false_or] at h2
      by_cases h3 : x ∈ seen
      · rw [if_pos (h2.2 h3), if_pos h3]
      · rw [if_neg (fun h => h3 (h2.1 h)), if_neg h3]
        have := ih (seen ++ [x]) (by simp [h])
        rw [← this]
        congr 1
        simp; omega
theorem sigCheck_met (t : List Sy) (h : ¬ 96 < t.length + 1) : sigCheck (truth :: t) = metErr [] t := by
  unfold sigCheck
  rw [if_neg (by simpa using h)]
  have := metErr_symsErr (truth :: t) t [] rfl
  simp at this
  simpa using this
/-- A step. -/
theorem metErr_step {t : List Sy} {k : Nat} (h : k < t.length) : metErr (t.take k) (t.drop k) = if (sget t k).one ≠ 0 then (sget t k).one else if sget t k ∈ t.take k then 113 else metErr (t.take (k + 1)) (t.drop (k + 1)) := by
  rw [sget_lt h, List.drop_eq_getElem_cons h, metErr, List.take_succ_eq_append_getElem h]
end Go.Proofs.Ytbohlpfndiiimaa
