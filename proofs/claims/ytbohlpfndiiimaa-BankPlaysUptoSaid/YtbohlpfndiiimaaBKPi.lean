/- A term in the place of another one: the document's bank and the program's. -/
import Derived.Test.YtbohlpfndiiimaaBKPh
import Derived.Test.YtbohlpfndiiimaaBKPf
import Derived.Test.YtbohlpfndiiimaaBKPg

/- The document's bank: found, there, put. -/
namespace Go.Proofs.Ytbohlpfndiiimaa
open Go.RowKit Go
set_option linter.unusedVariables false
set_option linter.unusedSimpArgs false
set_option maxRecDepth 100000 in
theorem rbfind_any (g : Nat) (sg : List Sy) (N : List En) (Y : Nat → Prop) (t : T) (w : World) (v : Value) (hNl : N.length ≤ 1000000) (hv : IsT w t v) (hK : RbS w g sg Y N) :
  Calls Try.prog 23 #[.pointer (some ⟨g, 0, none⟩), v] w (Ret fun v' w' => v' = .tuple #[.int .i64 (((t.bfind N).getD 0 : Nat) : Int), .bool (t.bfind N).isSome] ∧ Below w.heap.size w w') := by
 have hv0 := hv
 obtain ⟨_, a, c, rfl, _, _, _⟩ := hv.form
 have hK0 := hK
 obtain ⟨S9, sa, sc, ta, tc, hO⟩ := hK0
 have htl := tms_len N
 have hcp := hO.cap
 refine Calls.walk (l := [.pointer (some ⟨g, 0, none⟩), .agg #[.int .i64 t.f, .slice a t.args.length c]]) Try.func23 rfl (by kernel_rfl) ?_
 refine WC.sub (K' := [(0, .pointer (some ⟨g, 0, none⟩)), (1, .agg #[.int .i64 t.f, .slice a t.args.length c])]) ⟨rfl, rfl, trivial⟩ ?_
 refine WC.seq (WC.region ?_)
 refine WL.step (post := NewBlk w 35 #[.int .i64 t.f, .slice a t.args.length c]) rfl rfl rfl (fun za zC zh zk => box_35 rfl (zh.ev rfl) (zk _ _ (newBlk _ _ _))) ?_
 rintro _ w1 ⟨g2, rfl, hg3, hB4, hb5, hz6⟩
 have hl7 : w.heap.size ≤ g2 := by omega
 refine WL.asg rfl rfl rfl rfl rfl (WL.asg rfl rfl rfl rfl rfl (WL.nil (WE.next (WC.seq (WC.seq (WC.region (WL.asg rfl rfl rfl rfl rfl (WL.nil (WE.next (WC.block ?_))))))))))
 refine WC.loop (X := Nat) (fun k => N.length - k) (fun k => [(0, .pointer (some ⟨g, 0, none⟩)), (1, .agg #[.int .i64 t.f, .slice a t.args.length c]), (3, .pointer (some ⟨g2, 0, none⟩)), (6, .int .i64 (((k : Nat) : Int)))]) (fun k w8 => k ≤ N.length ∧ (∀ i, i < k → T.same (tmE N i) t = false) ∧ Below w.heap.size w w8 ∧ Blk w8 g2 35 #[.int .i64 t.f, .slice a t.args.length c]) 0 ⟨rfl, rfl, rfl, rfl, trivial⟩ ?_ ?_
 ·exact ⟨Nat.zero_le _, fun i h => absurd h (Nat.not_lt_zero i), hb5, hB4⟩
 ·rintro k w8 ⟨hk, hE, hb9, hB10⟩
  refine WC.seq (WC.seq (WC.region (WL.mv rfl rfl rfl rfl rfl (WL.mv rfl rfl rfl rfl rfl ?_))))
  refine WL.val _ rfl rfl rfl (fun za zC zh zk => nilCheck_ rfl (zh.ev rfl) zk) ?_
  refine WL.val _ rfl rfl rfl (fun za zC zh zk => fld_60_1 rfl (zh.ev rfl) zk) ?_
  have hc11 := bkeeps hb9 _ _ hO.c1
  refine WL.val _ rfl rfl rfl (fun za zC zh zk => ld_25 rfl (zh.ev rfl) hc11 zk) ?_
  refine WL.val (.int .i64 (((N.length : Nat) : Int))) rfl rfl rfl (fun za zC zh zk => len_25 rfl (zh.ev rfl) zk) ?_
  refine WL.val (.bool ((decide ((((k : Nat) : Int) : Int) < (((N.length : Nat) : Int) : Int))))) rfl rfl rfl (fun za zC zh zk => lss_3 rfl (zh.ev rfl) (zh.ev rfl) zk) ?_
  refine WL.nil (WE.next ?_)
  refine WC.cond rfl (fun h12 => ?_) (fun h12 => ?_)
  ·have h12 : (((k : Nat) : Int) : Int) < (((N.length : Nat) : Int) : Int) := by simpa using h12
   refine WC.skip (WE.next (WC.seq (WC.block (WC.seq ?_))))
   obtain ⟨b13, o14, A15, C16, ha17, hc18⟩ := IsTs.open hO.ts
   refine WC.opt [(true, .val (.pointer (some ⟨g, 0, none⟩))), (true, .val (.pointer (some ⟨g, 0, none⟩))), (true, .val (.pointer (some ⟨g, 1, none⟩))), (true, .val (.slice ta N.length tc)), (true, .val (.int .i64 (((k : Nat) : Int)))), (true, .val (.pointer (some ⟨b13, o14 + k * 2, none⟩))), (true, .val (.agg #[.int .i64 ((tget ((tms N)) k).f), .slice ((A15 k)) ((tget ((tms N)) k).args.length) ((C16 k))])), (true, .val (.agg #[.int .i64 t.f, .slice a t.args.length c])), (true, .val (.bool ((T.same ((tget ((tms N)) k)) t))))] [(0, .pointer (some ⟨g, 0, none⟩)), (1, .agg #[.int .i64 t.f, .slice a t.args.length c]), (3, .pointer (some ⟨g2, 0, none⟩)), (6, .int .i64 (((k : Nat) : Int))), (13, .bool ((decide ((((k : Nat) : Int) : Int) < (((N.length : Nat) : Int) : Int)))))] ⟨rfl, rfl, rfl, rfl, rfl, trivial⟩ (by kernel_rfl) (by kernel_rfl) (by kernel_rfl) ?_ ?_
   ·refine ⟨⟨true, .none rfl, fun h w => optUndef h, fun zβ za zw zc => ?_⟩, ?_⟩
    ·exact wp_move rfl (zc.kn.ev rfl) ⟨_, rfl, Below.refl _ _, optDef zβ rfl⟩
    refine ⟨⟨true, .none rfl, fun h w => optUndef h, fun zβ za zw zc => ?_⟩, ?_⟩
    ·exact nilCheck_ rfl ((evt za 16).trans (optVal (zc.dep 0 16 (by kernel_rfl)) rfl rfl)) ⟨_, rfl, Below.refl _ _, optDef zβ rfl⟩
    refine ⟨⟨true, .none rfl, fun h w => optUndef h, fun zβ za zw zc => ?_⟩, ?_⟩
    ·exact fld_60_1 rfl ((evt za 17).trans (optVal (zc.dep 1 17 (by kernel_rfl)) rfl rfl)) ⟨_, rfl, Below.refl _ _, optDef zβ rfl⟩
    refine ⟨⟨true, .none rfl, fun h w => optUndef h, fun zβ za zw zc => ?_⟩, ?_⟩
    ·exact ld_25 rfl ((evt za 18).trans (optVal (zc.dep 2 18 (by kernel_rfl)) rfl rfl)) (bkeeps zc.below _ _ hc11) ⟨_, rfl, Below.refl _ _, optDef zβ rfl⟩
    refine ⟨⟨true, .none rfl, fun h w => optUndef h, fun zβ za zw zc => ?_⟩, ?_⟩
    ·exact wp_move rfl (zc.kn.ev rfl) ⟨_, rfl, Below.refl _ _, optDef zβ rfl⟩
    refine ⟨⟨true, .none rfl, fun h w => optUndef h, fun zβ za zw zc => ?_⟩, ?_⟩
    ·exact ix_25 (k := k) rfl ((evt za 19).trans (optVal (zc.dep 3 19 (by kernel_rfl)) rfl rfl)) (ha17 k (by first | omega | (simp; omega))) ((evt za 20).trans (optVal (zc.dep 4 20 (by kernel_rfl)) rfl rfl)) (by first | omega | (simp; omega)) ⟨_, rfl, Below.refl _ _, optDef zβ rfl⟩
    refine ⟨⟨true, .none rfl, fun h w => optUndef h, fun zβ za zw zc => ?_⟩, ?_⟩
    ·exact ld_35 rfl ((evt za 21).trans (optVal (zc.dep 5 21 (by kernel_rfl)) rfl rfl)) (bkeeps (bstep hb9 zc.below) _ _ (hc18 k (by first | omega | (simp; omega))).1) (bkeeps (bstep hb9 zc.below) _ _ (hc18 k (by first | omega | (simp; omega))).2.1) ⟨_, rfl, Below.refl _ _, optDef zβ rfl⟩
    refine ⟨⟨true, .none rfl, fun h w => optUndef h, fun zβ za zw zc => ?_⟩, ?_⟩
    ·exact ld_35 rfl (zc.kn.ev rfl) (bkeeps zc.below _ _ ((hB10.cell 0).trans rfl)) (bkeeps zc.below _ _ ((hB10.cell 1).trans rfl)) ⟨_, rfl, Below.refl _ _, optDef zβ rfl⟩
    refine ⟨⟨true, .none rfl, fun h w => optUndef h, fun zβ za zw zc => ?_⟩, ?_⟩
    ·exact wp_call (by kernel_rfl) rfl (hv2 ((evt za 22).trans (optVal (zc.dep 6 22 (by kernel_rfl)) rfl rfl)) ((evt za 23).trans (optVal (zc.dep 7 23 (by kernel_rfl)) rfl rfl))) (ret_of (rsame_any _ _ _ _ _ (IsT.below (bstep hb9 zc.below) (hc18 k (by first | omega | (simp; omega))).2.2) (IsT.below (bstep hb9 zc.below) hv0))) (fun v w' h => ⟨v, rfl, h.2, optDef zβ h.1⟩)
    exact trivial
   ·intro za w19 zh hb20 zu
    have zh := zh.cons (d := 24) (v := .bool ((T.same ((tget ((tms N)) k)) t))) (optVal (zu 8 24 (by kernel_rfl)) rfl rfl)
    clear zu
    refine WE.go zh ?_
    refine WE.next ?_
    refine WC.cond rfl (fun h21 => ?_) (fun h21 => ?_)
    ·skip
     have hs9 : T.same (tmE N k) t = true := by rw [← tms_get (by omega)]; simpa using h21
     refine WC.seq (WC.region (WL.mv rfl rfl rfl rfl rfl (WL.asg rfl rfl rfl rfl rfl (WL.asg rfl rfl rfl rfl rfl (WL.nil (WE.next (WC.ret (WE.blockRet (WE.thenRet (WE.thenRet (WE.blockRet (WE.thenRet (WE.ret2 rfl rfl rfl ?_)))))))))))))
     have hb22 : Below w.heap.size w w19 := (bstep hb9 hb20)
     refine ⟨_, rfl, ?_, hb22⟩
     rw [bfind_same hK.ok.ok (by omega) hs9]; rfl
    ·skip
     have hs9 : T.same (tmE N k) t = false := by rw [← tms_get (by omega)]; simpa using h21
     refine WC.skip (WE.blockNormal (WE.next (WC.region (WL.mv rfl rfl rfl rfl rfl ?_))))
     refine WL.val (.int .i64 ((((k + 1) : Nat) : Int))) rfl rfl rfl (fun za zC zh zk => addb_3 rfl (zh.ev rfl) (zh.ev rfl) (wrap_eq (by omega) (by omega) (by omega)) zk) ?_
     refine WL.asg rfl rfl rfl rfl rfl (WL.nil ?_)
     refine WE.round (k + 1) ⟨rfl, rfl, rfl, rfl, trivial⟩ ?_ ?_
     ·have hb23 : Below w.heap.size w w19 := (bstep hb9 hb20)
      have hB24 := hB10.below hb20
      exact ⟨by omega, fun i hi => by rcases Nat.lt_or_ge i k with q | q; exact hE i q; (obtain rfl : i = k := by omega); exact hs9, hb23, hB24⟩
     ·omega
  ·have h12 : ¬ ((((k : Nat) : Int) : Int) < (((N.length : Nat) : Int) : Int)) := by simpa using h12
   refine WC.exit (WE.thenExit (WE.thenExit (WE.blockIs rfl (WE.next (WC.seq (WC.region (WL.asg rfl rfl rfl rfl rfl (WL.asg rfl rfl rfl rfl rfl (WL.nil (WE.next (WC.ret (WE.ret2 rfl rfl rfl ?_))))))))))))
   refine ⟨_, rfl, ?_, hb9⟩
   rw [bfind_nosame hK.ok.ok (fun i hi => hE i (by omega))]; rfl
set_option maxRecDepth 100000 in
theorem rbhas_any (g : Nat) (sg : List Sy) (N : List En) (Y : Nat → Prop) (n : Int) (w : World) (hK : RbS w g sg Y N) :
  Calls Try.prog 41 #[.pointer (some ⟨g, 0, none⟩), .int .i64 n] w (Ret fun v' w' => v' = .bool (hasB N n) ∧ Below w.heap.size w w') := by
 skip
 have hK0 := hK
 obtain ⟨S9, sa, sc, ta, tc, hO⟩ := hK0
 have htl := tms_len N
 have hcp := hO.cap
 refine Calls.walk (l := [.pointer (some ⟨g, 0, none⟩), .int .i64 n]) Try.func41 rfl (by kernel_rfl) ?_
 refine WC.sub (K' := [(0, .pointer (some ⟨g, 0, none⟩)), (1, .int .i64 n)]) ⟨rfl, rfl, trivial⟩ ?_
 refine WC.seq (WC.region (WL.asg rfl rfl rfl rfl rfl (WL.nil (WE.next (WC.seq (WC.region (WL.mv rfl rfl rfl rfl rfl ?_)))))))
 refine WL.val (.bool ((decide ((0 : Int) ≤ (n : Int))))) rfl rfl rfl (fun za zC zh zk => geq_3 rfl (zh.ev rfl) (zh.ev rfl) zk) ?_
 refine WL.mv rfl rfl rfl rfl rfl ?_
 refine bool_split ((decide ((0 : Int) ≤ (n : Int)))) (fun h1 => ?_) (fun h1 => ?_)
 ·refine WL.setb (d := 7) (b := true) rfl h1 ?_
  have h1 : (0 : Int) ≤ (n : Int) := by simpa using h1
  refine WL.want (d := 7) rfl rfl rfl ?_
  refine WL.mv rfl rfl rfl rfl rfl ?_
  refine WL.want (d := 7) rfl rfl rfl ?_
  refine WL.mv rfl rfl rfl rfl rfl ?_
  refine WL.want (d := 7) rfl rfl rfl ?_
  refine WL.val _ rfl rfl rfl (fun za zC zh zk => nilCheck_ rfl (zh.ev rfl) zk) ?_
  refine WL.want (d := 7) rfl rfl rfl ?_
  refine WL.val _ rfl rfl rfl (fun za zC zh zk => fld_60_1 rfl (zh.ev rfl) zk) ?_
  refine WL.want (d := 7) rfl rfl rfl ?_
  refine WL.val _ rfl rfl rfl (fun za zC zh zk => ld_25 rfl (zh.ev rfl) hO.c1 zk) ?_
  refine WL.want (d := 7) rfl rfl rfl ?_
  refine WL.val (.int .i64 (((N.length : Nat) : Int))) rfl rfl rfl (fun za zC zh zk => len_25 rfl (zh.ev rfl) zk) ?_
  refine WL.want (d := 7) rfl rfl rfl ?_
  refine WL.val (.bool ((decide ((n : Int) < (((N.length : Nat) : Int) : Int))))) rfl rfl rfl (fun za zC zh zk => lss_3 rfl (zh.ev rfl) (zh.ev rfl) zk) ?_
  refine WL.val (.bool ((decide ((n : Int) < (((N.length : Nat) : Int) : Int))))) rfl rfl rfl (fun za zC zh zk => wp_pickT rfl (zh.ev rfl) (zh.ev rfl) zk) ?_
  refine WL.asg rfl rfl rfl rfl rfl (WL.nil (WE.next (WC.ret (WE.ret1 rfl rfl ?_))))
  exact ⟨_, rfl, congrArg Value.bool (by unfold hasB; simp; omega), (Below.refl _ _)⟩
 ·refine WL.setb (d := 7) (b := false) rfl h1 ?_
  have h1 : ¬ ((0 : Int) ≤ (n : Int)) := by simpa using h1
  refine WL.skip (d := 7) rfl rfl rfl rfl rfl ?_
  refine WL.skip (d := 7) rfl rfl rfl rfl rfl ?_
  refine WL.skip (d := 7) rfl rfl rfl rfl rfl ?_
  refine WL.skip (d := 7) rfl rfl rfl rfl rfl ?_
  refine WL.skip (d := 7) rfl rfl rfl rfl rfl ?_
  refine WL.skip (d := 7) rfl rfl rfl rfl rfl ?_
  refine WL.skip (d := 7) rfl rfl rfl rfl rfl ?_
  refine WL.val (.bool false) rfl rfl rfl (fun za zC zh zk => wp_pickF rfl (zh.ev rfl) (zh.ev rfl) zk) ?_
  refine WL.asg rfl rfl rfl rfl rfl (WL.nil (WE.next (WC.ret (WE.ret1 rfl rfl ?_))))
  exact ⟨_, rfl, congrArg Value.bool (by unfold hasB; simp; omega), (Below.refl _ _)⟩
theorem syL_mem : ∀ {l : List T} {t : T}, T.syL l → t ∈ l → t.sy
 | x :: r, t, h, hm => by
  rcases List.mem_cons.1 hm with rfl | hm
  ·exact h.1
  ·exact syL_mem h.2 hm
set_option maxRecDepth 100000 in
theorem rbput_any (g : Nat) (sg : List Sy) : ∀ (t : T) (N : List En) (Y A : Nat → Prop) (w : World) (v : Value), t.size ≤ 300 → t.sy → N.length + t.size ≤ 1000000 → RbS w g sg Y N → InT A w t v → (∀ b, A b → ¬ Y b ∧ b < w.heap.size) →
  Calls Try.prog 40 #[.pointer (some ⟨g, 0, none⟩), v] w (Ret fun v' w' => v' = .int .i64 (((t.bput N).2 : Nat) : Int) ∧ (∃ Y', RbS w' g sg Y' (t.bput N).1 ∧ ∀ b, Y' b → Y b ∨ w.heap.size ≤ b) ∧ Chg Y w w') := by
 refine T.ind (fun f l ih => ?_)
 intro N Y A w v hsz hsy hNl hK ht hA
 obtain ⟨hf, a, c, rfl, hlc, hcm, hts⟩ := ht.form
 simp only [T.f_mk, T.args_mk] at hf hlc hts ⊢
 unfold maxLen at hcm
 have hsz' := hsz
 rw [T.size] at hsz'
 have hNl' := hNl
 rw [T.size] at hNl'
 have hlen := len_le_sizeL l
 have hYl := hK.lt
 have hC0 := Chg.refl Y w
 refine Calls.walk (l := [.pointer (some ⟨g, 0, none⟩), .agg #[.int .i64 f, .slice a l.length c]]) Try.func40 rfl (by kernel_rfl) ?_
 refine WC.sub (K' := [(0, .pointer (some ⟨g, 0, none⟩)), (1, .agg #[.int .i64 f, .slice a l.length c])]) ⟨rfl, rfl, trivial⟩ ?_
 refine WC.seq (WC.region ?_)
 refine WL.step (post := NewBlk w 35 #[.int .i64 f, .slice a l.length c]) rfl rfl rfl (fun za zC zh zk => box_35 rfl (zh.ev rfl) (zk _ _ (newBlk _ _ _))) ?_
 rintro _ w1 ⟨g2, rfl, hg3, hB4, hb5, hz6⟩
 have hl7 : w.heap.size ≤ g2 := by omega
 refine WL.asg rfl rfl rfl rfl rfl (WL.nil (WE.next (WC.seq (WC.seq (WC.region (WL.asg rfl rfl rfl rfl rfl (WL.nil (WE.next (WC.block ?_)))))))))
 have hbW := (hb5).size
 have hg3w : w.heap.size ≤ g2 := by omega
 have hj0 : RbJ w1 w.heap.size Y g sg ((T.bputL (l.take 0) N).1) (fun b => b = g2 ∨ A b) := ⟨Y, hK.below hb5, fun b q => .inl q, fun b q k => by
  have z := hYl b k
  rcases q with q | q
  ·omega
  ·exact (hA b q).1 k⟩
 have ht0 : InT A w1 (.mk f l) (.agg #[.int .i64 f, .slice a l.length c]) := ht.below hb5
 have hC8 := Chg.trans hC0 (.ofBelow hb5)
 refine WC.loop (X := Nat) (fun k => l.length - k) (fun k => [(0, .pointer (some ⟨g, 0, none⟩)), (1, .agg #[.int .i64 f, .slice a l.length c]), (3, .pointer (some ⟨g2, 0, none⟩)), (4, .int .i64 0), (5, .int .i64 (((k : Nat) : Int)))]) (fun k w9 => k ≤ l.length ∧ Chg Y w w9 ∧ Blk w9 g2 35 #[.int .i64 f, .slice a l.length c] ∧ RbJ (w9) w.heap.size Y g sg ((T.bputL (l.take k) N).1) (fun b => b = g2 ∨ A b) ∧ InT A (w9) (.mk f l) (.agg #[.int .i64 f, .slice a l.length c])) 0 ⟨rfl, rfl, rfl, rfl, rfl, trivial⟩ ?_ ?_
 ·exact ⟨Nat.zero_le _, hC8, hB4, hj0, ht0⟩
 ·rintro k w9 ⟨hkx, hCx, hB10, ho11, ho12⟩
  have hpo := bputL_ok (l.take k) N hK.ok.ok
  have htk := T.sizeL_take_le l k
  have hwx := hCx.size
  have hg3x := hB10.lt
  obtain ⟨Z9, hK9, hZ9, hX9⟩ := ho11
  have hZ9l := hK9.lt
  obtain ⟨_, a_, c_, e_, _, _, hts9⟩ := ho12.form
  simp only [T.f_mk, T.args_mk, Value.agg.injEq, Array.mk.injEq, List.cons.injEq, and_true, true_and, Value.slice.injEq] at e_ hts9
  obtain ⟨rfl, rfl⟩ := e_
  refine WC.seq (WC.seq (WC.region (WL.mv rfl rfl rfl rfl rfl ?_)))
  refine WL.val _ rfl rfl rfl (fun za zC zh zk => fld_35_1 rfl (zh.ev rfl) zk) ?_
  refine WL.val _ rfl rfl rfl (fun za zC zh zk => ld_25 rfl (zh.ev rfl) ((hB10.cell 1).trans rfl) zk) ?_
  refine WL.val (.int .i64 (((l.length : Nat) : Int))) rfl rfl rfl (fun za zC zh zk => len_25 rfl (zh.ev rfl) zk) ?_
  refine WL.val (.bool ((decide ((((k : Nat) : Int) : Int) < (((l.length : Nat) : Int) : Int))))) rfl rfl rfl (fun za zC zh zk => lss_3 rfl (zh.ev rfl) (zh.ev rfl) zk) ?_
  refine WL.nil (WE.next ?_)
  refine WC.cond rfl (fun h13 => ?_) (fun h13 => ?_)
  ·have h13 : (((k : Nat) : Int) : Int) < (((l.length : Nat) : Int) : Int) := by simpa using h13
   refine WC.skip (WE.next (WC.seq (WC.block (WC.region (WL.mv rfl rfl rfl rfl rfl ?_)))))
   refine WL.val _ rfl rfl rfl (fun za zC zh zk => fld_35_1 rfl (zh.ev rfl) zk) ?_
   refine WL.val _ rfl rfl rfl (fun za zC zh zk => ld_25 rfl (zh.ev rfl) ((hB10.cell 1).trans rfl) zk) ?_
   refine WL.mv rfl rfl rfl rfl rfl ?_
   obtain ⟨b14, o15, A16, C17, ha18, hc19⟩ := InTs.open hts9
   refine WL.val _ rfl rfl rfl (fun za zC zh zk => ix_25 (k := k) rfl (zh.ev rfl) (ha18 k (by first | omega | (simp; omega))) (zh.ev rfl) (by first | omega | (simp; omega)) zk) ?_
   refine WL.val _ rfl rfl rfl (fun za zC zh zk => ld_35 rfl (zh.ev rfl) (hc19 k (by first | omega | (simp; omega))).1 (hc19 k (by first | omega | (simp; omega))).2.1 zk) ?_
   have hmem9 : tget l k ∈ l := tget_mem (by omega)
   have hsz9 := T.sizeL_take_succ l k (by omega)
   have htg9 := tget_lt (show k < l.length by omega)
   rw [← htg9] at hsz9
   have hst9 := T.sizeL_take_le l (k + 1)
   have hsy9 := syL_mem hsy.2 hmem9
   refine WL.call rfl rfl rfl (fun za zh zC => wp_call (by kernel_rfl) rfl (hv2 (zh.ev rfl) (zh.ev rfl))) (ih _ hmem9 (T.bputL (l.take k) N).1 Z9 A _ _ (by omega) hsy9 (by omega) hK9 (hc19 k (by first | omega | (simp; omega))).2.2 (fun b q => ⟨fun k => hX9 b (.inr q) k, by have z := (hA b q).2; omega⟩)) ?_
   rintro _ w24 ⟨rfl, ⟨Z20, hK21, hZ22⟩, hc23⟩
   have hC25 := chg_fresh hCx hc23 (fun b q => hZ9 b q)
   have ht26 := ho12.chg hc23 (fun b q k => hX9 b (.inr q) k)
   have hB27 := chg_blk hB10 hc23 (fun k => hX9 _ (.inl rfl) k)
   refine WL.nil (WE.blockNormal (WE.next (WC.region (WL.mv rfl rfl rfl rfl rfl ?_))))
   refine WL.val (.int .i64 ((((k + 1) : Nat) : Int))) rfl rfl rfl (fun za zC zh zk => addb_3 rfl (zh.ev rfl) (zh.ev rfl) (wrap_eq (by omega) (by omega) (by omega)) zk) ?_
   refine WL.asg rfl rfl rfl rfl rfl (WL.nil ?_)
   refine WE.round (k + 1) ⟨rfl, rfl, rfl, rfl, rfl, trivial⟩ ?_ ?_
   ·have hj28 : RbJ w24 w.heap.size Y g sg ((T.bputL (l.take (k + 1)) N).1) (fun b => b = g2 ∨ A b) := by
     rw [bputL_take (by omega)]
     exact ⟨Z20, hK21, fun b q => by rcases hZ22 b q with z | z; exact hZ9 b z; (right; omega), fun b q k => by
      rcases hZ22 b k with z | z
      ·exact hX9 b q z
      ·rcases q with q | q
       ·omega
       ·have z3 := (hA b q).2; omega⟩
    exact ⟨(by omega), hC25, hB27, hj28, ht26⟩
   ·omega
  ·have h13 : ¬ ((((k : Nat) : Int) : Int) < (((l.length : Nat) : Int) : Int)) := by simpa using h13
   refine WC.exit (WE.thenExit (WE.thenExit (WE.blockIs rfl (WE.next (WC.seq (WC.region (WL.mv rfl rfl rfl rfl rfl ?_)))))))
   refine WL.val _ rfl rfl rfl (fun za zC zh zk => ld_35 rfl (zh.ev rfl) ((hB10.cell 0).trans rfl) ((hB10.cell 1).trans rfl) zk) ?_
   have hk29 : RbS w9 g sg Z9 ((T.bputL l N).1) := by have z := hK9; rw [List.take_of_length_le (by omega)] at z; exact z
   rw [List.take_of_length_le (by omega)] at hpo
   have hle9 := hpo.1.le
   refine WL.call rfl rfl rfl (fun za zh zC => wp_call (by kernel_rfl) rfl (hv2 (zh.ev rfl) (zh.ev rfl))) (rbfind_any g sg (T.bputL l N).1 Z9 (.mk f l) _ _ (by omega) (InT.isT ho12) hk29) ?_
   rintro _ w31 ⟨rfl, hq30⟩
   refine WL.mv rfl rfl rfl rfl rfl ?_
   refine WL.val (.int .i64 ((((((T.mk f l).bfind (T.bputL l N).1).getD 0) : Nat) : Int))) rfl rfl rfl (fun za zC zh zk => ext2_0 rfl (zh.ev rfl) zk) ?_
   refine WL.val (.bool (((T.mk f l).bfind (T.bputL l N).1).isSome)) rfl rfl rfl (fun za zC zh zk => ext2_1 rfl (zh.ev rfl) zk) ?_
   refine WL.asg rfl rfl rfl rfl rfl (WL.asg rfl rfl rfl rfl rfl (WL.nil (WE.next (WC.seq (WC.seq (WC.region (WL.mv rfl rfl rfl rfl rfl (WL.nil (WE.next ?_)))))))))
   refine WC.cond rfl (fun h32 => ?_) (fun h32 => ?_)
   ·skip
    obtain ⟨nf, hnf⟩ := Option.isSome_iff_exists.1 h32
    have hpe := bput_found hK.ok.ok hnf
    refine WC.seq (WC.region (WL.mv rfl rfl rfl rfl rfl (WL.asg rfl rfl rfl rfl rfl (WL.nil (WE.next (WC.ret (WE.thenRet (WE.ret1 rfl rfl ?_))))))))
    have hC33 := Chg.trans hCx (.ofBelow hq30)
    have ho34 := hk29.below hq30
    refine ⟨_, rfl, by rw [hpe, hnf]; rfl, ?_, hC33⟩
    rw [hpe]
    exact ⟨Z9, ho34, hZ9⟩
   ·skip
    have hnf : (T.mk f l).bfind (T.bputL l N).1 = none := by cases hq : (T.mk f l).bfind (T.bputL l N).1 with | none => rfl | some n => rw [hq] at h32; simp at h32
    obtain ⟨hpe, hpt⟩ := bput_new hK.ok.ok hnf
    refine WC.skip (WE.next (WC.seq ?_))
    have ho35 := hk29.below hq30
    have ho36 := ho12.below hq30
    have hB37 := hB10.below hq30
    obtain ⟨S9, sa, sc, ta, tc, hO⟩ := id ho35
    have hwx9 : w.heap.size ≤ w31.heap.size := Nat.le_trans hwx hq30.size
    have hqW := hO.lt
    have hlN : ((tms (T.bputL l N).1)).length = (T.bputL l N).1.length := (tms_len _)
    have hOWl : ∀ b, obk ta ((T.bputL l N).1.length) tc = some b → b < w31.heap.size := hO.row.lt
    have hOWg : ∀ b, obk ta ((T.bputL l N).1.length) tc = some b → b ≠ g := (fun b q => (hO.oY b q).2)
    have hSg : ∀ b, S9 b → b ≠ g := (fun b q => (hO.sY b q).2)
    have hgW : g < w31.heap.size := hO.blk.lt
    refine WC.appI [(true, .val (.pointer (some ⟨g, 0, none⟩))), (true, .val (.pointer (some ⟨g, 0, none⟩))), (true, .val (.pointer (some ⟨g, 1, none⟩))), (true, .val (.slice ta ((T.bputL l N).1.length) tc)), (true, .val (.agg #[.int .i64 f, .slice a l.length c])), (true, .val undef), (true, .val (.int .i64 ((((T.bputL l N).1.length : Nat) : Int)))), (true, .val undef), (true, .val undef), (true, .val undef), (true, .val undef), (true, .val (.pointer (some ⟨g, 0, none⟩))), (true, .val (.pointer (some ⟨g, 1, none⟩))), (true, .val undef)] [(0, .pointer (some ⟨g, 0, none⟩)), (1, .agg #[.int .i64 f, .slice a l.length c]), (3, .pointer (some ⟨g2, 0, none⟩)), (4, .int .i64 0), (5, .int .i64 (((k : Nat) : Int))), (6, .int .i64 ((((((T.mk f l).bfind (T.bputL l N).1).getD 0) : Nat) : Int))), (7, .bool (((T.mk f l).bfind (T.bputL l N).1).isSome)), (12, .bool ((decide ((((k : Nat) : Int) : Int) < (((l.length : Nat) : Int) : Int))))), (28, .bool (((T.mk f l).bfind (T.bputL l N).1).isSome))] (fun b => b = g ∨ obk ta ((T.bputL l N).1.length) tc = some b) 5 7 8 9 10 13 ((T.bputL l N).1.length + 1) 38 (fun ra => match ra with | some p => .pointer (some ⟨p.block, 0 + ((T.bputL l N).1.length) * 2, none⟩) | none => undef) (fun zp zv zw => match zp with | none => InT (fun b => w31.heap.size ≤ b) zw (T.mk f l) zv | some (ra, rc) => InT (fun b => w31.heap.size ≤ b ∧ obk ra ((T.bputL l N).1.length + 1) rc ≠ some b) zw (T.mk f l) zv) (fun zv zw => OneRow eltT w31 35 (T.mk 0 []) zv zw) (fun zy zz ra rc wz => RowD eltT (fun b => (S9 b ∨ w31.heap.size ≤ b) ∧ obk ra ((T.bputL l N).1.length + 1) rc ≠ some b) wz 35 ra rc ((T.bputL l N).1.length + 1) ((tms (T.bputL l N).1) ++ [bif zy then (T.mk f l) else (T.mk 0 [])]) ∧ (∀ b, obk ra ((T.bputL l N).1.length + 1) rc = some b → obk ta ((T.bputL l N).1.length) tc = some b ∨ w31.heap.size ≤ b) ∧ Blk wz g 60 #[.slice sa sg.length sc, (bif zz then Value.slice ra ((T.bputL l N).1.length + 1) rc else Value.slice ta (T.bputL l N).1.length tc)]) (fun v w w' hb h => InT.below hb h) (fun v w w' hb h => OneRow.chg (S := fun _ => False) h (.ofBelow hb) (fun b q => q.elim)) (fun p v w w' hc h => by
     have hlt : ∀ b, b = g ∨ obk ta ((T.bputL l N).1.length) tc = some b → b < w31.heap.size := fun b q => by rcases q with q | q; (rw [q]; exact hgW); exact hOWl b q
     cases p with
     | none => exact InT.chg h hc (fun b q e => by have z := hlt b e; omega)
     | some p => exact InT.chg h hc (fun b q e => by have z := hlt b e; have z2 := q.1; omega)) ⟨rfl, rfl, rfl, rfl, rfl, rfl, rfl, rfl, rfl, trivial⟩ (by kernel_rfl) (by kernel_rfl) (by kernel_rfl) (by decide) (by kernel_rfl) rfl ?_ ?_
    ·refine ⟨.inl ⟨rfl, rfl, fun za zw zc => ?_⟩, ?_⟩
     ·exact wp_move rfl (zc.kn.ev rfl) ⟨_, rfl, rfl, optDef rfl rfl⟩
     refine ⟨.inl ⟨rfl, rfl, fun za zw zc => ?_⟩, ?_⟩
     ·exact nilCheck_ rfl ((evt za 30).trans (optSVal (zc.dep 0 30 (by kernel_rfl) (by decide)) rfl rfl)) ⟨_, rfl, rfl, optDef rfl rfl⟩
     refine ⟨.inl ⟨rfl, rfl, fun za zw zc => ?_⟩, ?_⟩
     ·exact fld_60_1 rfl ((evt za 31).trans (optSVal (zc.dep 1 31 (by kernel_rfl) (by decide)) rfl rfl)) ⟨_, rfl, rfl, optDef rfl rfl⟩
     refine ⟨.inl ⟨rfl, rfl, fun za zw zc => ?_⟩, ?_⟩
     ·exact ld_25 rfl ((evt za 32).trans (optSVal (zc.dep 2 32 (by kernel_rfl) (by decide)) rfl rfl)) (bkeeps (zc.early (by kernel_rfl)) _ _ hO.c1) ⟨_, rfl, rfl, optDef rfl rfl⟩
     refine ⟨.inl ⟨rfl, rfl, fun za zw zc => ?_⟩, ?_⟩
     ·exact ld_35 rfl (zc.kn.ev rfl) (bkeeps (zc.early (by kernel_rfl)) _ _ ((hB37.cell 0).trans rfl)) (bkeeps (zc.early (by kernel_rfl)) _ _ ((hB37.cell 1).trans rfl)) ⟨_, rfl, rfl, optDef rfl rfl⟩
     refine ⟨.inr (.inl ⟨rfl, rfl, by kernel_rfl, fun za zw zc => ?_⟩), ?_⟩
     ·exact wp_call (by kernel_rfl) rfl (hv1 ((evt za 34).trans (optSVal (zc.dep 4 34 (by kernel_rfl) (by decide)) rfl rfl))) (rcopy_any (T.mk f l) _ _ (by omega) (IsT.below (zc.early (by kernel_rfl)) (InT.isT ho36))) (fun v w' h => ⟨v, rfl, h.2, InT.mono (fun b hb _ => Nat.le_trans (zc.early (by kernel_rfl)).size hb) h.1⟩)
     refine ⟨.inl ⟨rfl, rfl, fun za zw zc => ?_⟩, ?_⟩
     ·exact len_25 rfl ((evt za 33).trans (optSVal (zc.dep 3 33 (by kernel_rfl) (by decide)) rfl rfl)) ⟨_, rfl, rfl, optDef rfl rfl⟩
     refine ⟨.inr (.inr (.inl ⟨rfl, rfl, by kernel_rfl, fun za zw zc => ?_⟩)), ?_⟩
     ·exact row_25_1 rfl (zc.kn.ev rfl) ⟨_, rfl, balloc _ _, ⟨_, _, rfl, (zc.early (by kernel_rfl)).size, Blk.new' rfl, ⟨_, _, rfl, (by unfold I64; omega), none, 0, rfl, Nat.le_refl _, by decide, trivial⟩⟩⟩
     refine ⟨.inr (.inr (.inr (.inl ⟨rfl, rfl, by kernel_rfl, 37, by kernel_rfl, fun za zw zvc zc zb zp zz => ?_⟩))), ?_⟩
     ·obtain ⟨g1, cs, e1, hg1, hB1, hin⟩ := zz
      exact wp_appD (E := eltT) (S2 := fun b => w31.heap.size ≤ b) (size := 2) (bytes := 32) (z := .agg #[.int .i64 0, .slice none 0 0]) rfl Try.underlying25 (by kernel_rfl) rfl (by decide) rfl ((evt za 33).trans (optSVal (zc.dep 3 33 (by kernel_rfl) (by decide)) rfl rfl)) ((evt za 37).trans e1) (hO.row.below zb) hB1 hin (fun b q e => by have z := hOWl b e; omega) (by omega) (by omega) (fun ra rc w' h1 h2 h3 => ⟨ra, rc, rfl, ⟨h1.mono (fun b q _ => ⟨q.1, h1.ne b q⟩) (fun b q => q.2), fun b q => (h3 b q).imp id (fun z => Nat.le_trans zb.size z), chg_blk (hO.blk.below zb) h2 (fun e => hOWg _ e rfl)⟩, ((InT.mono (S' := fun b => w31.heap.size ≤ b ∧ b < zw.heap.size) (fun b q hlt => ⟨q, hlt⟩) zp).chg h2 (fun b q e => by have z := hOWl b e; omega)).mono (fun b q _ => ⟨q.1, fun e => by rcases h3 b e with z | z; (have z2 := hOWl b z; omega); omega⟩), h2.mono (fun b q => .inr q)⟩)
     refine ⟨.inr (.inr (.inr (.inr (.inl ⟨rfl, rfl, 38, by kernel_rfl, fun za zw ra rc zy zz zc zv zg => ?_⟩)))), ?_⟩
     ·obtain ⟨g9, cs9, e9, ho9, hB9, hsz9⟩ := RowD.blkT zg.1 (by omega)
      subst e9
      exact ix_25 (k := (T.bputL l N).1.length) rfl ((evt za 38).trans zv) rfl ((evt za 36).trans (optSVal (zc.dep 6 36 (by kernel_rfl) (by decide)) rfl rfl)) (by omega) ⟨rfl, rfl⟩
     refine ⟨.inr (.inr (.inr (.inr (.inr (.inl ⟨rfl, rfl, 39, 35, by kernel_rfl, by kernel_rfl, fun za zw ra rc zz zc zv zp zg zch => ?_⟩))))), ?_⟩
     ·obtain ⟨g9, cs9, e9, ho9, hB9, hsz9⟩ := RowD.blkT zg.1 (by omega)
      subst e9
      obtain ⟨_, a1, c1, e1, _⟩ := InT.form zp
      rw [e1] at zp
      have hu9 : ∀ u v, Upd g9 zw ((zw.setCell ⟨g9, 0 + (T.bputL l N).1.length * 2, none⟩ u).setCell ⟨g9, 0 + (T.bputL l N).1.length * 2 + 1, none⟩ v) := fun u v => (Upd.at_ _ _ _ _).trans (Upd.at_ _ _ _ _)
      have hg9 : g9 ≠ g := fun e => by rcases zg.2.1 g9 ho9 with z | z; exact hOWg g9 z e; (have z2 := hgW; omega)
      have hs9 := RowD.setT zg.1 (show (T.bputL l N).1.length < (T.bputL l N).1.length + 1 by omega) (zp.mono (S' := (fun b => (S9 b ∨ w31.heap.size ≤ b) ∧ obk (some ⟨g9, 0, none⟩) ((T.bputL l N).1.length + 1) rc ≠ some b)) (fun b q _ => ⟨.inr q.1, q.2⟩))
      rw [setLast hlN] at hs9
      exact st_35 rfl ((evt za 39).trans zv) ((evt za 35).trans e1) rfl rfl hB9 (hsz9 _ (by omega)) (fun v => ⟨v, rfl, ⟨hs9, zg.2.1, chg_blk zg.2.2 (S := fun b => b = g9) (.ofUpd (hu9 _ _) rfl) (fun e => hg9 (Eq.symm e))⟩, chg_fresh zch (Chg.ofUpd (S := fun b => b = g9) (hu9 _ _) rfl) (fun b q => by have q : b = g9 := q; rw [q]; rcases zg.2.1 g9 ho9 with z | z; exact .inl (.inr z); exact .inr z), (Chg.ofUpd (S := fun b => b = g9) (hu9 _ _) rfl).mono (fun _ _ => trivial)⟩)
     refine ⟨.inl ⟨rfl, rfl, fun za zw zc => ?_⟩, ?_⟩
     ·exact nilCheck_ rfl ((evt za 30).trans (optSVal (zc.dep 0 30 (by kernel_rfl) (by decide)) rfl rfl)) ⟨_, rfl, rfl, optDef rfl rfl⟩
     refine ⟨.inl ⟨rfl, rfl, fun za zw zc => ?_⟩, ?_⟩
     ·exact fld_60_1 rfl ((evt za 40).trans (optSVal (zc.dep 11 40 (by kernel_rfl) (by decide)) rfl rfl)) ⟨_, rfl, rfl, optDef rfl rfl⟩
     refine ⟨.inr (.inr (.inr (.inr (.inr (.inr ⟨rfl, rfl, 38, by kernel_rfl, fun za zw ra rc zy zc zv zg => ?_⟩))))), ?_⟩
     ·have hgo : obk ra ((T.bputL l N).1.length + 1) rc ≠ some g := fun e => by rcases zg.2.1 _ e with z | z; exact hOWg _ z rfl; (have z2 := hgW; omega)
      exact st_25 rfl ((evt za 41).trans (optSVal (zc.dep 12 41 (by kernel_rfl) (by decide)) rfl rfl)) ((evt za 38).trans zv) zg.2.2 (by first | decide | simp) (fun v => ⟨v, rfl, ⟨RowD.chg (Z := fun b => b = g) zg.1 (.ofUpd (Upd.at_ _ _ _ _) rfl) (fun b q e => hgo ((show b = g from e) ▸ q)) (fun b q e => by have e : b = g := e; rcases q.1 with z | z; exact hSg b z e; (have z2 := hgW; omega)), zg.2.1, zg.2.2.set_ 1 _⟩, .ofUpd (Upd.at_ _ _ _ _) (.inl rfl)⟩)
     exact trivial
    ·intro za w38 ra39 rc40 zh zv hG41 hc42 zu
     have hC43 := Chg.trans hCx (.ofBelow hq30)
     have hok9 : NEk ((T.bputL l N).1 ++ [⟨f, (T.bputL l N).2⟩]) := by have z2 := hK.ok.put hsz hsy; rw [hpe] at z2; exact z2
     have hpt9 : tms ((T.bputL l N).1 ++ [⟨f, (T.bputL l N).2⟩]) = tms (T.bputL l N).1 ++ [.mk f l] := by rw [hpe] at hpt; exact hpt
     have hK45 := RbO.grown hO hok9 hpt9 hc42.size hG41.2.2 hG41.1 hG41.2.1 hc42
     have hC44 : Chg Y w w38 := chg_fresh hC43 hc42 (fun b q => by rcases q with q | q; (rw [q]; exact hZ9 _ hO.gY); exact hZ9 _ (hO.oY b q).1)
     clear zu
     refine WE.go zh ?_
     refine WE.next (WC.seq (WC.region (WL.mv rfl rfl rfl rfl rfl ?_)))
     refine WL.val _ rfl rfl rfl (fun za zC zh zk => nilCheck_ rfl (zh.ev rfl) zk) ?_
     refine WL.val _ rfl rfl rfl (fun za zC zh zk => fld_60_1 rfl (zh.ev rfl) zk) ?_
     refine WL.val _ rfl rfl rfl (fun za zC zh zk => ld_25 rfl (zh.ev rfl) ((Blk.cell hG41.2.2 1).trans rfl) zk) ?_
     refine WL.val (.int .i64 (((((T.bputL l N).1.length + 1) : Nat) : Int))) rfl rfl rfl (fun za zC zh zk => len_25 rfl (zh.ev rfl) zk) ?_
     refine WL.val (.int .i64 ((((T.bputL l N).1.length : Nat) : Int))) rfl rfl rfl (fun za zC zh zk => subb_3 rfl (zh.ev rfl) (zh.ev rfl) (wrap_eq (by omega) (by omega) (by omega)) zk) ?_
     refine WL.asg rfl rfl rfl rfl rfl ?_
     refine WL.nil (WE.sub (K' := [(0, .pointer (some ⟨g, 0, none⟩)), (1, .agg #[.int .i64 f, .slice a l.length c]), (3, .pointer (some ⟨g2, 0, none⟩)), (4, .int .i64 ((((T.bputL l N).1.length : Nat) : Int))), (5, .int .i64 (((k : Nat) : Int))), (6, .int .i64 ((((((T.mk f l).bfind (T.bputL l N).1).getD 0) : Nat) : Int))), (7, .bool (((T.mk f l).bfind (T.bputL l N).1).isSome)), (12, .bool ((decide ((((k : Nat) : Int) : Int) < (((l.length : Nat) : Int) : Int))))), (28, .bool (((T.mk f l).bfind (T.bputL l N).1).isSome))]) ⟨rfl, rfl, rfl, rfl, rfl, rfl, rfl, rfl, rfl, trivial⟩ ?_)
     refine WE.next (WC.ret (WE.ret1 rfl rfl ?_))
     refine ⟨_, rfl, by rw [hpe], ?_, hC44⟩
     rw [hpe]
     refine ⟨_, ⟨_, _, _, _, _, hK45⟩, fun b q => ?_⟩
     rcases q.1 with z | z
     ·exact hZ9 b z
     ·right; omega
end Go.Proofs.Ytbohlpfndiiimaa

/- The document's bank: put, told, made. -/
namespace Go.Proofs.Ytbohlpfndiiimaa
open Go.RowKit Go
set_option linter.unusedVariables false
set_option linter.unusedSimpArgs false
set_option maxRecDepth 100000 in
theorem rbPut_any (g : Nat) (sg : List Sy) (t : T) (N : List En) (Y A : Nat → Prop) (w : World) (v : Value) (hsz : t.size ≤ 4294967296) (hNl : N.length ≤ 900000) (hK : RbS w g sg Y N) (ht : InT A w t v) (hA : ∀ b, A b → ¬ Y b ∧ b < w.heap.size) :
  Calls Try.prog 21 #[.pointer (some ⟨g, 0, none⟩), v] w (Ret fun v' w' => v' = .tuple #[.int .i64 (bputV sg N t), .int .i64 (chkI sg t)] ∧ (∃ Y', RbS w' g sg Y' (bputI sg N t) ∧ ∀ b, Y' b → Y b ∨ w.heap.size ≤ b) ∧ Chg Y w w') := by
 have hv0 := InT.isT ht
 obtain ⟨_, a, c, rfl, _, _, _⟩ := ht.form
 have hK0 := hK
 obtain ⟨S9, sa, sc, ta, tc, hO⟩ := hK0
 have htl := tms_len N
 have hcp := hO.cap
 refine Calls.walk (l := [.pointer (some ⟨g, 0, none⟩), .agg #[.int .i64 t.f, .slice a t.args.length c]]) Try.func21 rfl (by kernel_rfl) ?_
 refine WC.sub (K' := [(0, .pointer (some ⟨g, 0, none⟩)), (1, .agg #[.int .i64 t.f, .slice a t.args.length c])]) ⟨rfl, rfl, trivial⟩ ?_
 refine WC.seq (WC.region ?_)
 refine WL.step (post := NewBlk w 35 #[.int .i64 t.f, .slice a t.args.length c]) rfl rfl rfl (fun za zC zh zk => box_35 rfl (zh.ev rfl) (zk _ _ (newBlk _ _ _))) ?_
 rintro _ w1 ⟨g2, rfl, hg3, hB4, hb5, hz6⟩
 have hl7 : w.heap.size ≤ g2 := by omega
 refine WL.asg rfl rfl rfl rfl rfl (WL.asg rfl rfl rfl rfl rfl (WL.nil (WE.next (WC.seq (WC.seq ?_)))))
 have hc8 := bkeeps hb5 _ _ hO.c0
 refine WC.opt [(true, .val (.pointer (some ⟨g, 0, none⟩))), (true, .val (.pointer (some ⟨g, 0, none⟩))), (true, .val (.pointer (some ⟨g, 0, none⟩))), (true, .val (.agg #[.slice sa sg.length sc])), (true, .val (.agg #[.int .i64 t.f, .slice a t.args.length c])), (true, .val (.int .i64 ((chkI sg t)))), (true, .val (.bool ((((chkI sg t) : Int) != (0 : Int)))))] [(0, .pointer (some ⟨g, 0, none⟩)), (1, .agg #[.int .i64 t.f, .slice a t.args.length c]), (3, .pointer (some ⟨g2, 0, none⟩)), (4, .int .i64 0), (5, .int .i64 0)] ⟨rfl, rfl, rfl, rfl, rfl, trivial⟩ (by kernel_rfl) (by kernel_rfl) (by kernel_rfl) ?_ ?_
 ·refine ⟨⟨true, .none rfl, fun h w => optUndef h, fun zβ za zw zc => ?_⟩, ?_⟩
  ·exact wp_move rfl (zc.kn.ev rfl) ⟨_, rfl, Below.refl _ _, optDef zβ rfl⟩
  refine ⟨⟨true, .none rfl, fun h w => optUndef h, fun zβ za zw zc => ?_⟩, ?_⟩
  ·exact nilCheck_ rfl ((evt za 6).trans (optVal (zc.dep 0 6 (by kernel_rfl)) rfl rfl)) ⟨_, rfl, Below.refl _ _, optDef zβ rfl⟩
  refine ⟨⟨true, .none rfl, fun h w => optUndef h, fun zβ za zw zc => ?_⟩, ?_⟩
  ·exact fld_60_0 rfl ((evt za 7).trans (optVal (zc.dep 1 7 (by kernel_rfl)) rfl rfl)) ⟨_, rfl, Below.refl _ _, optDef zβ rfl⟩
  refine ⟨⟨true, .none rfl, fun h w => optUndef h, fun zβ za zw zc => ?_⟩, ?_⟩
  ·exact ld_24 rfl ((evt za 8).trans (optVal (zc.dep 2 8 (by kernel_rfl)) rfl rfl)) (bkeeps zc.below _ _ hc8) ⟨_, rfl, Below.refl _ _, optDef zβ rfl⟩
  refine ⟨⟨true, .none rfl, fun h w => optUndef h, fun zβ za zw zc => ?_⟩, ?_⟩
  ·exact ld_35 rfl (zc.kn.ev rfl) (bkeeps zc.below _ _ ((hB4.cell 0).trans rfl)) (bkeeps zc.below _ _ ((hB4.cell 1).trans rfl)) ⟨_, rfl, Below.refl _ _, optDef zβ rfl⟩
  refine ⟨⟨true, .none rfl, fun h w => optUndef h, fun zβ za zw zc => ?_⟩, ?_⟩
  ·exact wp_call (by kernel_rfl) rfl (hv2 ((evt za 9).trans (optVal (zc.dep 3 9 (by kernel_rfl)) rfl rfl)) ((evt za 10).trans (optVal (zc.dep 4 10 (by kernel_rfl)) rfl rfl))) (rtchk_any sg t _ _ _ hsz (IsSig.below (bstep hb5 zc.below) hO.sig) (IsT.below (bstep hb5 zc.below) hv0)) (fun v w' h => ⟨v, rfl, h.2, optDef zβ h.1⟩)
  refine ⟨⟨true, .none rfl, fun h w => optUndef h, fun zβ za zw zc => ?_⟩, ?_⟩
  ·exact neq_27 rfl ((evt za 11).trans (optVal (zc.dep 5 11 (by kernel_rfl)) rfl rfl)) (zc.kn.ev rfl) ⟨_, rfl, Below.refl _ _, optDef zβ rfl⟩
  exact trivial
 ·intro za w9 zh hb10 zu
  have zh := zh.cons (d := 12) (v := .bool ((((chkI sg t) : Int) != (0 : Int)))) (optVal (zu 6 12 (by kernel_rfl)) rfl rfl)
  clear zu
  refine WE.go zh ?_
  refine WE.next ?_
  refine WC.cond rfl (fun h11 => ?_) (fun h11 => ?_)
  ·have h11 : ((chkI sg t) : Int) ≠ (0 : Int) := by simpa using h11
   have hck : ¬ chkI sg t = 0 := by simpa using h11
   refine WC.seq (WC.region (WL.asg rfl rfl rfl rfl rfl (WL.asg rfl rfl rfl rfl rfl (WL.nil (WE.next (WC.ret (WE.thenRet (WE.ret2 rfl rfl rfl ?_))))))))
   have hb12 : Below w.heap.size w w9 := (bstep hb5 hb10)
   refine ⟨_, rfl, by unfold bputV chkI at *; rw [if_neg hck]; (split at hck; exact absurd rfl hck; rename_i q; rw [if_neg q]), ⟨Y, by unfold bputI; rw [if_neg hck]; exact RbS.below hK hb12, fun b q => .inl q⟩, .ofBelow hb12⟩
  ·have h11 : ¬ (((chkI sg t) : Int) ≠ (0 : Int)) := by simpa using h11
   have hck : chkI sg t = 0 := by simpa using h11
   have hle := chkB_le ((chkI_iff sg t).1 hck)
   refine WC.skip (WE.next (WC.seq (WC.region (WL.mv rfl rfl rfl rfl rfl ?_))))
   have hB13 := hB4.below hb10
   refine WL.val _ rfl rfl rfl (fun za zC zh zk => ld_35 rfl (zh.ev rfl) ((hB13.cell 0).trans rfl) ((hB13.cell 1).trans rfl) zk) ?_
   have hb14 : Below w.heap.size w w9 := (bstep hb5 hb10)
   have hbW := (hb14).size
   refine WL.call rfl rfl rfl (fun za zh zC => wp_call (by kernel_rfl) rfl (hv2 (zh.ev rfl) (zh.ev rfl))) (rbput_any g sg t N Y A _ _ hle (IsT.sy hv0) (by omega) (RbS.below hK hb14) (InT.below hb14 ht) (fun b q => ⟨(hA b q).1, by have z := (hA b q).2; omega⟩)) ?_
   rintro _ w19 ⟨rfl, ⟨Z15, hK16, hZ17⟩, hc18⟩
   have hC20 := Chg.trans (.ofBelow hb14) hc18
   refine WL.asg rfl rfl rfl rfl rfl (WL.asg rfl rfl rfl rfl rfl (WL.nil (WE.next (WC.ret (WE.ret2 rfl rfl rfl ?_)))))
   refine ⟨_, rfl, by unfold bputV; rw [if_pos hck, hck], ⟨Z15, by unfold bputI; rw [if_pos hck]; exact hK16, fun b q => by rcases hZ17 b q with z | z; exact .inl z; (right; omega)⟩, hC20⟩
set_option maxRecDepth 100000 in
theorem rbArgs_any (g : Nat) (sg : List Sy) (N : List En) (Y : Nat → Prop) (w : World) (k : Nat) (hNl : N.length ≤ 1000000) (hk : k < N.length) (hK : RbS w g sg Y N) :
  Calls Try.prog 44 #[.pointer (some ⟨g, 0, none⟩), .int .i64 (k : Int)] w (Ret fun v' w' => (∃ ra rc, v' = .slice ra (eget N k).args.length rc ∧ NsAt w' w.heap.size (eget N k).args ra) ∧ Below w.heap.size w w') := by
 skip
 have hK0 := hK
 obtain ⟨S9, sa, sc, ta, tc, hO⟩ := hK0
 have htl := tms_len N
 have hcp := hO.cap
 have hok := hK.ok.ok
 have htk := tms_get hk
 have hta := tm_argk hok hk
 have hal9 : (tget (tms N) k).args.length = (eget N k).args.length := by rw [htk, hta.1]
 have hal : (eget N k).args.length ≤ 300 := by
  have z := (hK.ok.at_ hk).1
  rw [tmE_eq hok hk, T.size] at z
  have z2 := len_le_sizeL ((eget N k).args.map (tmE N))
  rw [List.length_map] at z2; omega
 refine Calls.walk (l := [.pointer (some ⟨g, 0, none⟩), .int .i64 (((k : Nat) : Int))]) Try.func44 rfl (by kernel_rfl) ?_
 refine WC.sub (K' := [(0, .pointer (some ⟨g, 0, none⟩)), (1, .int .i64 (((k : Nat) : Int)))]) ⟨rfl, rfl, trivial⟩ ?_
 refine WC.seq (WC.region (WL.asg rfl rfl rfl rfl rfl (WL.nil (WE.next (WC.seq (WC.region (WL.asg rfl rfl rfl rfl rfl (WL.nil (WE.next (WC.seq (WC.seq (WC.region (WL.mv rfl rfl rfl rfl rfl (WL.mv rfl rfl rfl rfl rfl ?_))))))))))))))
 refine WL.call rfl rfl rfl (fun za zh zC => wp_call (by kernel_rfl) rfl (hv2 (zh.ev rfl) (zh.ev rfl))) ((by have z := rbhas_any g sg N Y (k : Int) _ (RbS.below hK (Below.refl _ _)); rw [hasB_yes hk] at z; exact z)) ?_
 rintro _ w2 ⟨rfl, hq1⟩
 refine WL.val (.bool false) rfl rfl rfl (fun za zC zh zk => wp_not rfl (zh.ev rfl) zk) ?_
 refine WL.nil (WE.next ?_)
 refine WC.condF rfl rfl ?_
 refine WC.skip (WE.next (WC.seq (WC.seq (WC.region (WL.asg rfl rfl rfl rfl rfl (WL.nil (WE.next (WC.block ?_))))))))
 have hr0 : RowD eltN (fun _ => False) w2 3 none 0 0 ([]) := RowD.nil
 refine WC.loop (X := Nat × Option Addr × Nat) (fun x => (eget N k).args.length - x.1) (fun x => [(0, .pointer (some ⟨g, 0, none⟩)), (1, .int .i64 (((k : Nat) : Int))), (4, .slice none 0 0), (5, .slice x.2.1 x.1 x.2.2), (6, .int .i64 (((x.1 : Nat) : Int))), (12, .bool false)]) (fun x w3 => x.1 ≤ (eget N k).args.length ∧ (∀ b, obk x.2.1 x.1 x.2.2 = some b → w.heap.size ≤ b) ∧ Below w.heap.size w w3 ∧ RowD eltN (fun _ => False) (w3) 3 x.2.1 x.2.2 x.1 (((eget N k).args.take x.1))) ((0, none, 0)) ⟨rfl, rfl, rfl, rfl, rfl, rfl, trivial⟩ ?_ ?_
 ·exact ⟨Nat.zero_le _, (fun b e => nomatch e), hq1, hr0⟩
 ·rintro x w3 ⟨hkx, hown, hb4, ho5⟩
  refine WC.seq (WC.seq (WC.region (WL.mv rfl rfl rfl rfl rfl (WL.mv rfl rfl rfl rfl rfl ?_))))
  refine WL.val _ rfl rfl rfl (fun za zC zh zk => nilCheck_ rfl (zh.ev rfl) zk) ?_
  refine WL.val _ rfl rfl rfl (fun za zC zh zk => fld_60_1 rfl (zh.ev rfl) zk) ?_
  have hc6 := bkeeps hb4 _ _ hO.c1
  refine WL.val _ rfl rfl rfl (fun za zC zh zk => ld_25 rfl (zh.ev rfl) hc6 zk) ?_
  refine WL.mv rfl rfl rfl rfl rfl ?_
  obtain ⟨b7, o8, A9, C10, ha11, hc12⟩ := IsTs.open hO.ts
  refine WL.val _ rfl rfl rfl (fun za zC zh zk => ix_25 (k := k) rfl (zh.ev rfl) (ha11 k (by first | omega | (simp; omega))) (zh.ev rfl) (by first | omega | (simp; omega)) zk) ?_
  refine WL.val _ rfl rfl rfl (fun za zC zh zk => fld_35_1 rfl (zh.ev rfl) zk) ?_
  refine WL.val _ rfl rfl rfl (fun za zC zh zk => ld_25 rfl (zh.ev rfl) (bkeeps hb4 _ _ (hc12 k (by first | omega | (simp; omega))).2.1) zk) ?_
  refine WL.val (.int .i64 ((((tget ((tms N)) k).args.length : Nat) : Int))) rfl rfl rfl (fun za zC zh zk => len_25 rfl (zh.ev rfl) zk) ?_
  refine WL.val (.bool ((decide ((((x.1 : Nat) : Int) : Int) < ((((tget ((tms N)) k).args.length : Nat) : Int) : Int))))) rfl rfl rfl (fun za zC zh zk => lss_3 rfl (zh.ev rfl) (zh.ev rfl) zk) ?_
  refine WL.nil (WE.next ?_)
  refine WC.cond rfl (fun h13 => ?_) (fun h13 => ?_)
  ·have h13 : (((x.1 : Nat) : Int) : Int) < ((((tget ((tms N)) k).args.length : Nat) : Int) : Int) := by simpa using h13
   refine WC.skip (WE.next (WC.seq (WC.block (WC.seq (WC.region (WL.mv rfl rfl rfl rfl rfl (WL.mv rfl rfl rfl rfl rfl ?_)))))))
   refine WL.val _ rfl rfl rfl (fun za zC zh zk => nilCheck_ rfl (zh.ev rfl) zk) ?_
   refine WL.val _ rfl rfl rfl (fun za zC zh zk => fld_60_1 rfl (zh.ev rfl) zk) ?_
   refine WL.val _ rfl rfl rfl (fun za zC zh zk => ld_25 rfl (zh.ev rfl) hc6 zk) ?_
   refine WL.mv rfl rfl rfl rfl rfl ?_
   refine WL.val _ rfl rfl rfl (fun za zC zh zk => ix_25 (k := k) rfl (zh.ev rfl) (ha11 k (by first | omega | (simp; omega))) (zh.ev rfl) (by first | omega | (simp; omega)) zk) ?_
   refine WL.val _ rfl rfl rfl (fun za zC zh zk => fld_35_1 rfl (zh.ev rfl) zk) ?_
   refine WL.val _ rfl rfl rfl (fun za zC zh zk => ld_25 rfl (zh.ev rfl) (bkeeps hb4 _ _ (hc12 k (by first | omega | (simp; omega))).2.1) zk) ?_
   refine WL.mv rfl rfl rfl rfl rfl ?_
   have hl14 := isT_row (hc12 k (by first | omega | (simp; omega))).2.2
   obtain ⟨b15, o16, A17, C18, ha19, hc20⟩ := IsTs.open hl14.2.2.2
   refine WL.val _ rfl rfl rfl (fun za zC zh zk => ix_25 (k := x.1) rfl (zh.ev rfl) (ha19 x.1 (by first | omega | (simp; omega))) (zh.ev rfl) (by first | omega | (simp; omega)) zk) ?_
   refine WL.val _ rfl rfl rfl (fun za zC zh zk => ld_35 rfl (zh.ev rfl) (bkeeps hb4 _ _ (hc20 x.1 (by first | omega | (simp; omega))).1) (bkeeps hb4 _ _ (hc20 x.1 (by first | omega | (simp; omega))).2.1) zk) ?_
   have hfj := hta.2 x.1 (by omega)
   have hfd := bfind_getk (bfind_tm hok (n := aget (eget N k).args x.1) (by omega) (t := tget (tget (tms N) k).args x.1) (by rw [htk, hfj.1]))
   refine WL.call rfl rfl rfl (fun za zh zC => wp_call (by kernel_rfl) rfl (hv2 (zh.ev rfl) (zh.ev rfl))) ((by have z := rbfind_any g sg N Y (tget (tget (tms N) k).args x.1) _ _ (by omega) (IsT.below hb4 (hc20 x.1 (by first | omega | (simp; omega))).2.2) (RbS.below hK hb4); rw [hfd.1, hfd.2] at z; exact z)) ?_
   rintro _ w22 ⟨rfl, hq21⟩
   refine WL.mv rfl rfl rfl rfl rfl ?_
   refine WL.val (.int .i64 ((((aget (eget N k).args x.1) : Nat) : Int))) rfl rfl rfl (fun za zC zh zk => ext2_0 rfl (zh.ev rfl) zk) ?_
   refine WL.val (.bool true) rfl rfl rfl (fun za zC zh zk => ext2_1 rfl (zh.ev rfl) zk) ?_
   refine WL.asg rfl rfl rfl rfl rfl (WL.asg rfl rfl rfl rfl rfl ?_)
   refine WL.nil (WE.sub (K' := [(0, .pointer (some ⟨g, 0, none⟩)), (1, .int .i64 (((k : Nat) : Int))), (4, .slice none 0 0), (5, .slice x.2.1 x.1 x.2.2), (6, .int .i64 (((x.1 : Nat) : Int))), (7, .int .i64 ((((aget (eget N k).args x.1) : Nat) : Int))), (12, .bool false), (23, .bool ((decide ((((x.1 : Nat) : Int) : Int) < ((((tget ((tms N)) k).args.length : Nat) : Int) : Int)))))]) ⟨rfl, rfl, rfl, rfl, rfl, rfl, rfl, rfl, trivial⟩ ?_)
   refine WE.next (WC.region (WL.mv rfl rfl rfl rfl rfl (WL.mv rfl rfl rfl rfl rfl ?_)))
   refine WL.step (post := NewRow w22 3 #[.int .i64 ((((aget (eget N k).args x.1) : Nat) : Int))] 1) rfl rfl rfl (fun za zC zh zk => row_31_1 rfl (zh.ev rfl) (zk _ _ (newRow _ _ _ _))) ?_
   rintro _ w23 ⟨g24, rfl, hg25, hB26, hb27, hz28⟩
   have hb29 : Below w.heap.size w w22 := (bstep hb4 hq21)
   have hl30 : w.heap.size ≤ g24 := by have z2 := (hb29).size; omega
   have hl31 : w3.heap.size ≤ g24 := by have z2 := (hq21).size; omega
   have hb33 : Below w3.heap.size w3 w23 := (bstep hq21 hb27)
   have ho32 := ho5.below hb33
   have hb34 : Below w.heap.size w w23 := (bstep hb4 hb33)
   have hws43 : w.heap.size ≤ w23.heap.size := hb34.size
   refine WL.step (post := fun v w' => ∃ ra2 rc2, v = .slice ra2 (x.1 + 1) rc2 ∧ RowD eltN (fun _ => False) w' 3 ra2 rc2 ((x.1 + 1)) ((((eget N k).args.take x.1) ++ [(aget (eget N k).args x.1)])) ∧ Chg (fun b => obk x.2.1 x.1 x.2.2 = some b) w23 w' ∧ ∀ b, obk ra2 ((x.1 + 1)) rc2 = some b → obk x.2.1 x.1 x.2.2 = some b ∨ w23.heap.size ≤ b) rfl rfl rfl (fun za zC zh zk => wp_appD (E := eltN) (S2 := fun _ => False) (y := (aget (eget N k).args x.1)) (size := 1) (bytes := 8) (z := .int .i64 0) rfl Try.underlying31 (by kernel_rfl) rfl (by decide) rfl (zh.ev rfl) (zh.ev rfl) ho32 hB26 rfl (fun b q => q.elim) (by omega) (by omega) (fun ra rc w' h1 h2 h3 => zk _ _ ⟨ra, rc, rfl, h1.mono (fun b q _ => by rcases q.1 with q | q <;> exact q) (fun b q => q.elim), h2, h3⟩)) ?_
   rintro _ w35 ⟨ra36, rc37, rfl, hr38, hc39, ho40⟩
   have hb41 := chg_below hb34 hc39 (fun b hb e => by have z := hown b e; omega)
   have hob42 : ∀ b, obk ra36 ((x.1 + 1)) rc37 = some b → w.heap.size ≤ b := fun b e => by rcases ho40 b e with z | z; exact hown b z; omega
   have hr44 : RowD eltN (fun _ => False) w35 3 ra36 rc37 ((x.1 + 1)) (((eget N k).args.take (x.1 + 1))) := by rw [← ntake_succ (by omega)]; exact hr38
   refine WL.asg rfl rfl rfl rfl rfl (WL.nil (WE.blockNormal (WE.next (WC.region (WL.mv rfl rfl rfl rfl rfl ?_)))))
   refine WL.val (.int .i64 ((((x.1 + 1) : Nat) : Int))) rfl rfl rfl (fun za zC zh zk => addb_3 rfl (zh.ev rfl) (zh.ev rfl) (wrap_eq (by omega) (by omega) (by omega)) zk) ?_
   refine WL.asg rfl rfl rfl rfl rfl (WL.nil ?_)
   refine WE.round ((x.1 + 1, ra36, rc37)) ⟨rfl, rfl, rfl, rfl, rfl, rfl, trivial⟩ ?_ ?_
   ·exact ⟨(by (try dsimp only); omega), hob42, hb41, hr44⟩
   ·(try dsimp only); omega
  ·have h13 : ¬ ((((x.1 : Nat) : Int) : Int) < ((((tget ((tms N)) k).args.length : Nat) : Int) : Int)) := by simpa using h13
   refine WC.exit (WE.thenExit (WE.thenExit (WE.blockIs rfl (WE.next (WC.seq (WC.region (WL.mv rfl rfl rfl rfl rfl (WL.asg rfl rfl rfl rfl rfl (WL.nil (WE.next (WC.ret (WE.ret1 rfl rfl ?_))))))))))))
   have hx9 : x.1 = (eget N k).args.length := by omega
   have hrr := ho5
   rw [hx9, List.take_length] at hrr
   rw [hx9] at hown
   rw [hx9]
   exact ⟨_, rfl, ⟨_, _, rfl, RowD.nsAt hrr hown⟩, hb4⟩
set_option maxRecDepth 100000 in
theorem rbUsers_any (g : Nat) (sg : List Sy) (N : List En) (Y : Nat → Prop) (w : World) (k : Nat) (hNl : N.length ≤ 1000000) (hk : k < N.length) (hK : RbS w g sg Y N) :
  Calls Try.prog 42 #[.pointer (some ⟨g, 0, none⟩), .int .i64 (k : Int)] w (Ret fun v' w' => (∃ ra rc, v' = .slice ra (usersE N k).length rc ∧ NsAt w' w.heap.size (usersE N k) ra ∧ (usersE N k).length ≤ rc) ∧ Below w.heap.size w w') := by
 skip
 have hK0 := hK
 obtain ⟨S9, sa, sc, ta, tc, hO⟩ := hK0
 have htl := tms_len N
 have hcp := hO.cap
 have hok := hK.ok.ok
 refine Calls.walk (l := [.pointer (some ⟨g, 0, none⟩), .int .i64 (((k : Nat) : Int))]) Try.func42 rfl (by kernel_rfl) ?_
 refine WC.sub (K' := [(0, .pointer (some ⟨g, 0, none⟩)), (1, .int .i64 (((k : Nat) : Int)))]) ⟨rfl, rfl, trivial⟩ ?_
 refine WC.seq (WC.region (WL.asg rfl rfl rfl rfl rfl (WL.nil (WE.next (WC.seq (WC.region (WL.asg rfl rfl rfl rfl rfl (WL.nil (WE.next (WC.seq (WC.seq (WC.region (WL.asg rfl rfl rfl rfl rfl (WL.nil (WE.next (WC.block ?_))))))))))))))))
 have hr0 : RowD eltN (fun _ => False) w 3 none 0 0 ([]) := RowD.nil
 refine WC.loop (X := Nat × Option Addr × Nat × Nat) (fun x => N.length - x.1) (fun x => [(0, .pointer (some ⟨g, 0, none⟩)), (1, .int .i64 (((k : Nat) : Int))), (4, .slice none 0 0), (5, .slice x.2.1 x.2.2.2 x.2.2.1), (6, .int .i64 (((x.1 : Nat) : Int)))]) (fun x w1 => x.1 ≤ N.length ∧ (∀ b, obk x.2.1 x.2.2.2 x.2.2.1 = some b → w.heap.size ≤ b) ∧ x.2.2.2 = (usersT N k x.1).length ∧ Below w.heap.size w w1 ∧ RowD eltN (fun _ => False) (w1) 3 x.2.1 x.2.2.1 x.2.2.2 ((usersT N k x.1))) ((0, none, 0, 0)) ⟨rfl, rfl, rfl, rfl, rfl, trivial⟩ ?_ ?_
 ·exact ⟨Nat.zero_le _, (fun b e => nomatch e), rfl, (Below.refl _ _), hr0⟩
 ·rintro x w1 ⟨hkx, hown, hm9, hb2, ho3⟩
  have hul := usersT_len N k x.1
  refine WC.seq (WC.seq (WC.region (WL.mv rfl rfl rfl rfl rfl (WL.mv rfl rfl rfl rfl rfl ?_))))
  refine WL.val _ rfl rfl rfl (fun za zC zh zk => nilCheck_ rfl (zh.ev rfl) zk) ?_
  refine WL.val _ rfl rfl rfl (fun za zC zh zk => fld_60_1 rfl (zh.ev rfl) zk) ?_
  have hc4 := bkeeps hb2 _ _ hO.c1
  refine WL.val _ rfl rfl rfl (fun za zC zh zk => ld_25 rfl (zh.ev rfl) hc4 zk) ?_
  refine WL.val (.int .i64 (((N.length : Nat) : Int))) rfl rfl rfl (fun za zC zh zk => len_25 rfl (zh.ev rfl) zk) ?_
  refine WL.val (.bool ((decide ((((x.1 : Nat) : Int) : Int) < (((N.length : Nat) : Int) : Int))))) rfl rfl rfl (fun za zC zh zk => lss_3 rfl (zh.ev rfl) (zh.ev rfl) zk) ?_
  refine WL.nil (WE.next ?_)
  refine WC.cond rfl (fun h5 => ?_) (fun h5 => ?_)
  ·have h5 : (((x.1 : Nat) : Int) : Int) < (((N.length : Nat) : Int) : Int) := by simpa using h5
   refine WC.skip (WE.next (WC.seq (WC.block (WC.seq (WC.region (WL.mv rfl rfl rfl rfl rfl (WL.mv rfl rfl rfl rfl rfl ?_)))))))
   have hxl : x.1 < N.length := by omega
   have hal : (eget N x.1).args.length ≤ 300 := by
    have z := (hK.ok.at_ hxl).1
    rw [tmE_eq hok hxl, T.size] at z
    have z2 := len_le_sizeL ((eget N x.1).args.map (tmE N))
    rw [List.length_map] at z2; omega
   refine WL.call rfl rfl rfl (fun za zh zC => wp_call (by kernel_rfl) rfl (hv2 (zh.ev rfl) (zh.ev rfl))) (rbArgs_any g sg N Y _ x.1 (by omega) hxl (RbS.below hK hb2)) ?_
   rintro _ w10 ⟨⟨ra6, rc7, rfl, hr8⟩, hb9⟩
   refine WL.asg rfl rfl rfl rfl rfl (WL.nil (WE.next (WC.seq (WC.region (WL.asg rfl rfl rfl rfl rfl (WL.nil (WE.next (WC.seq (WC.seq (WC.region (WL.asg rfl rfl rfl rfl rfl (WL.nil (WE.next (WC.block ?_))))))))))))))
   refine WC.loop (X := Nat) (fun y => (eget N x.1).args.length - y) (fun y => [(0, .pointer (some ⟨g, 0, none⟩)), (1, .int .i64 (((k : Nat) : Int))), (4, .slice none 0 0), (5, .slice x.2.1 x.2.2.2 x.2.2.1), (6, .int .i64 (((x.1 : Nat) : Int))), (7, .slice ra6 ((eget N x.1).args.length) rc7), (8, .bool ((decide (k ∈ (eget N x.1).args.take y)))), (9, .int .i64 (((y : Nat) : Int))), (16, .bool ((decide ((((x.1 : Nat) : Int) : Int) < (((N.length : Nat) : Int) : Int)))))]) (fun y w11 => y ≤ (eget N x.1).args.length ∧ Below w.heap.size w w11 ∧ Below w10.heap.size w10 w11 ∧ RowD eltN (fun _ => False) (w11) 3 x.2.1 x.2.2.1 x.2.2.2 ((usersT N k x.1)) ∧ NsAt (w11) w1.heap.size (eget N x.1).args ra6) 0 ⟨rfl, rfl, rfl, rfl, rfl, rfl, rfl, rfl, rfl, trivial⟩ ?_ ?_
   ·have hb12 : Below w.heap.size w w10 := (bstep hb2 hb9)
    have ho13 := ho3.below hb9
    exact ⟨Nat.zero_le _, hb12, (Below.refl _ _), ho13, hr8⟩
   ·rintro y w11 ⟨hky, hb14, hb15, ho16, ho17⟩
    refine WC.seq (WC.seq (WC.region (WL.mv rfl rfl rfl rfl rfl (WL.mv rfl rfl rfl rfl rfl ?_))))
    refine WL.val (.int .i64 ((((eget N x.1).args.length : Nat) : Int))) rfl rfl rfl (fun za zC zh zk => len_31 rfl (zh.ev rfl) zk) ?_
    refine WL.val (.bool ((decide ((((y : Nat) : Int) : Int) < ((((eget N x.1).args.length : Nat) : Int) : Int))))) rfl rfl rfl (fun za zC zh zk => lss_3 rfl (zh.ev rfl) (zh.ev rfl) zk) ?_
    refine WL.nil (WE.next ?_)
    refine WC.cond rfl (fun h18 => ?_) (fun h18 => ?_)
    ·have h18 : (((y : Nat) : Int) : Int) < ((((eget N x.1).args.length : Nat) : Int) : Int) := by simpa using h18
     refine WC.skip (WE.next (WC.seq (WC.block (WC.region (WL.mv rfl rfl rfl rfl rfl (WL.mv rfl rfl rfl rfl rfl ?_))))))
     refine bool_split ((decide (k ∈ (eget N x.1).args.take y))) (fun h19 => ?_) (fun h19 => ?_)
     ·refine WL.setb (d := 29) (b := true) rfl h19 ?_
      have h19 : k ∈ (eget N x.1).args.take y := by simpa using h19
      refine WL.skip (d := 29) rfl rfl rfl rfl rfl ?_
      refine WL.skip (d := 29) rfl rfl rfl rfl rfl ?_
      refine WL.skip (d := 29) rfl rfl rfl rfl rfl ?_
      refine WL.skip (d := 29) rfl rfl rfl rfl rfl ?_
      refine WL.skip (d := 29) rfl rfl rfl rfl rfl ?_
      refine WL.skip (d := 29) rfl rfl rfl rfl rfl ?_
      refine WL.val (.bool true) rfl rfl rfl (fun za zC zh zk => wp_pickT rfl (zh.ev rfl) (zh.ev rfl) zk) ?_
      have hfe : true = (decide (k ∈ (eget N x.1).args.take (y + 1))) := by rw [take_mem_succ (by omega)]; simp [h19]
      refine WL.asg rfl rfl rfl rfl rfl ?_
      refine WL.setb (d := 8) (b := (decide (k ∈ (eget N x.1).args.take (y + 1)))) rfl hfe ?_
      refine WL.nil (WE.blockNormal (WE.next (WC.region (WL.mv rfl rfl rfl rfl rfl ?_))))
      refine WL.val (.int .i64 ((((y + 1) : Nat) : Int))) rfl rfl rfl (fun za zC zh zk => addb_3 rfl (zh.ev rfl) (zh.ev rfl) (wrap_eq (by omega) (by omega) (by omega)) zk) ?_
      refine WL.asg rfl rfl rfl rfl rfl (WL.nil ?_)
      refine WE.round (y + 1) ⟨rfl, rfl, rfl, rfl, rfl, rfl, rfl, rfl, rfl, trivial⟩ ?_ ?_
      ·exact ⟨by omega, hb14, hb15, ho16, ho17⟩
      ·omega
     ·refine WL.setb (d := 29) (b := false) rfl h19 ?_
      have h19 : ¬ (k ∈ (eget N x.1).args.take y) := by simpa using h19
      refine WL.want (d := 29) rfl rfl rfl ?_
      refine WL.mv rfl rfl rfl rfl rfl ?_
      refine WL.want (d := 29) rfl rfl rfl ?_
      refine WL.mv rfl rfl rfl rfl rfl ?_
      refine WL.want (d := 29) rfl rfl rfl ?_
      obtain ⟨b20, o21, ha22, hc23⟩ := InRow.openN (NsAt.row ho17)
      refine WL.val _ rfl rfl rfl (fun za zC zh zk => ix_31 (k := y) rfl (zh.ev rfl) (ha22 y (by first | omega | (simp; omega))) (zh.ev rfl) (by first | omega | (simp; omega)) zk) ?_
      refine WL.want (d := 29) rfl rfl rfl ?_
      refine WL.val _ rfl rfl rfl (fun za zC zh zk => ld_3 rfl (zh.ev rfl) (hc23 y (by first | omega | (simp; omega))) zk) ?_
      refine WL.want (d := 29) rfl rfl rfl ?_
      refine WL.mv rfl rfl rfl rfl rfl ?_
      refine WL.want (d := 29) rfl rfl rfl ?_
      refine WL.val (.bool ((((((aget ((eget N x.1).args) y) : Nat) : Int) : Int) == (((k : Nat) : Int) : Int)))) rfl rfl rfl (fun za zC zh zk => eql_3 rfl (zh.ev rfl) (zh.ev rfl) zk) ?_
      refine WL.val (.bool ((((((aget ((eget N x.1).args) y) : Nat) : Int) : Int) == (((k : Nat) : Int) : Int)))) rfl rfl rfl (fun za zC zh zk => wp_pickF rfl (zh.ev rfl) (zh.ev rfl) zk) ?_
      have hfe : (((((aget ((eget N x.1).args) y) : Nat) : Int) : Int) == (((k : Nat) : Int) : Int)) = (decide (k ∈ (eget N x.1).args.take (y + 1))) := by rw [take_mem_succ (by omega), decide_eq_false h19, Bool.false_or, Bool.eq_iff_iff]; simp; omega
      refine WL.asg rfl rfl rfl rfl rfl ?_
      refine WL.setb (d := 8) (b := (decide (k ∈ (eget N x.1).args.take (y + 1)))) rfl hfe ?_
      refine WL.nil (WE.blockNormal (WE.next (WC.region (WL.mv rfl rfl rfl rfl rfl ?_))))
      refine WL.val (.int .i64 ((((y + 1) : Nat) : Int))) rfl rfl rfl (fun za zC zh zk => addb_3 rfl (zh.ev rfl) (zh.ev rfl) (wrap_eq (by omega) (by omega) (by omega)) zk) ?_
      refine WL.asg rfl rfl rfl rfl rfl (WL.nil ?_)
      refine WE.round (y + 1) ⟨rfl, rfl, rfl, rfl, rfl, rfl, rfl, rfl, rfl, trivial⟩ ?_ ?_
      ·exact ⟨by omega, hb14, hb15, ho16, ho17⟩
      ·omega
    ·have h18 : ¬ ((((y : Nat) : Int) : Int) < ((((eget N x.1).args.length : Nat) : Int) : Int)) := by simpa using h18
     refine WC.exit (WE.thenExit (WE.thenExit (WE.blockIs rfl (WE.next (WC.seq (WC.region (WL.mv rfl rfl rfl rfl rfl (WL.nil (WE.next ?_)))))))))
     refine WC.cond rfl (fun h24 => ?_) (fun h24 => ?_)
     ·have h24 : k ∈ (eget N x.1).args.take y := by simpa using h24
      have hmem : k ∈ (eget N x.1).args := by have z := h24; rw [List.take_of_length_le (by omega)] at z; exact z
      refine WC.region (WL.mv rfl rfl rfl rfl rfl (WL.mv rfl rfl rfl rfl rfl ?_))
      refine WL.step (post := NewRow w11 3 #[.int .i64 (((x.1 : Nat) : Int))] 1) rfl rfl rfl (fun za zC zh zk => row_31_1 rfl (zh.ev rfl) (zk _ _ (newRow _ _ _ _))) ?_
      rintro _ w25 ⟨g26, rfl, hg27, hB28, hb29, hz30⟩
      have hl31 : w.heap.size ≤ g26 := by have z2 := (hb14).size; omega
      have hl32 : w10.heap.size ≤ g26 := by have z2 := (hb15).size; omega
      have hl33 : w11.heap.size ≤ g26 := by omega
      have ho34 := ho16.below hb29
      have hb35 : Below w.heap.size w w25 := (bstep hb14 hb29)
      have hws44 : w.heap.size ≤ w25.heap.size := hb35.size
      refine WL.step (post := fun v w' => ∃ ra2 rc2, v = .slice ra2 (x.2.2.2 + 1) rc2 ∧ RowD eltN (fun _ => False) w' 3 ra2 rc2 ((x.2.2.2 + 1)) (((usersT N k x.1) ++ [x.1])) ∧ Chg (fun b => obk x.2.1 x.2.2.2 x.2.2.1 = some b) w25 w' ∧ ∀ b, obk ra2 ((x.2.2.2 + 1)) rc2 = some b → obk x.2.1 x.2.2.2 x.2.2.1 = some b ∨ w25.heap.size ≤ b) rfl rfl rfl (fun za zC zh zk => wp_appD (E := eltN) (S2 := fun _ => False) (y := x.1) (size := 1) (bytes := 8) (z := .int .i64 0) rfl Try.underlying31 (by kernel_rfl) rfl (by decide) rfl (zh.ev rfl) (zh.ev rfl) ho34 hB28 rfl (fun b q => q.elim) (by omega) (by omega) (fun ra rc w' h1 h2 h3 => zk _ _ ⟨ra, rc, rfl, h1.mono (fun b q _ => by rcases q.1 with q | q <;> exact q) (fun b q => q.elim), h2, h3⟩)) ?_
      rintro _ w36 ⟨ra37, rc38, rfl, hr39, hc40, ho41⟩
      have hb42 := chg_below hb35 hc40 (fun b hb e => by have z := hown b e; omega)
      have hob43 : ∀ b, obk ra37 ((x.2.2.2 + 1)) rc38 = some b → w.heap.size ≤ b := fun b e => by rcases ho41 b e with z | z; exact hown b z; omega
      refine WL.asg rfl rfl rfl rfl rfl (WL.nil (WE.blockNormal (WE.next (WC.region (WL.mv rfl rfl rfl rfl rfl ?_)))))
      refine WL.val (.int .i64 ((((x.1 + 1) : Nat) : Int))) rfl rfl rfl (fun za zC zh zk => addb_3 rfl (zh.ev rfl) (zh.ev rfl) (wrap_eq (by omega) (by omega) (by omega)) zk) ?_
      refine WL.asg rfl rfl rfl rfl rfl (WL.nil ?_)
      refine WE.round ((x.1 + 1, ra37, rc38, (x.2.2.2 + 1))) ⟨rfl, rfl, rfl, rfl, rfl, trivial⟩ ?_ ?_
      ·exact ⟨(by (try dsimp only); omega), hob43, (by (try dsimp only); rw [usersT_yes hmem, List.length_append, List.length_singleton]; omega), hb42, (by (try dsimp only); rw [usersT_yes hmem]; exact hr39)⟩
      ·(try dsimp only); omega
     ·have h24 : ¬ (k ∈ (eget N x.1).args.take y) := by simpa using h24
      have hmem : ¬ k ∈ (eget N x.1).args := by have z := h24; rw [List.take_of_length_le (by omega)] at z; exact z
      refine WC.skip (WE.blockNormal (WE.next (WC.region (WL.mv rfl rfl rfl rfl rfl ?_))))
      refine WL.val (.int .i64 ((((x.1 + 1) : Nat) : Int))) rfl rfl rfl (fun za zC zh zk => addb_3 rfl (zh.ev rfl) (zh.ev rfl) (wrap_eq (by omega) (by omega) (by omega)) zk) ?_
      refine WL.asg rfl rfl rfl rfl rfl (WL.nil ?_)
      refine WE.round ((x.1 + 1, x.2.1, x.2.2.1, x.2.2.2)) ⟨rfl, rfl, rfl, rfl, rfl, trivial⟩ ?_ ?_
      ·exact ⟨(by (try dsimp only); omega), hown, (by (try dsimp only); rw [usersT_no hmem]; omega), hb14, (by (try dsimp only); rw [usersT_no hmem]; exact ho16)⟩
      ·(try dsimp only); omega
  ·have h5 : ¬ ((((x.1 : Nat) : Int) : Int) < (((N.length : Nat) : Int) : Int)) := by simpa using h5
   refine WC.exit (WE.thenExit (WE.thenExit (WE.blockIs rfl (WE.next (WC.seq (WC.region (WL.mv rfl rfl rfl rfl rfl (WL.asg rfl rfl rfl rfl rfl (WL.nil (WE.next (WC.ret (WE.ret1 rfl rfl ?_))))))))))))
   have hx9 : x.1 = N.length := by omega
   have hrr := ho3
   rw [hx9, usersT_end] at hm9
   rw [hx9, usersT_end, hm9] at hrr
   rw [hm9] at hown
   rw [hm9]
   exact ⟨_, rfl, ⟨_, _, rfl, RowD.nsAt hrr hown, (RowD.inRow hrr).2.1⟩, hb2⟩
set_option maxRecDepth 100000 in
theorem rcopyS_any (l : List Sy) (w : World) (v : Value) (hz : l.length ≤ 4294967296) (hv : IsSig w l v) : Calls Try.prog 18 #[v] w (Ret fun v' w' => (∃ ra rc, v' = .agg #[.slice ra l.length rc] ∧ Own w' (fun b => w.heap.size ≤ b) 66 3 ra rc l.length (syCells l)) ∧ Below w.heap.size w w') := by
 obtain ⟨a, c, rfl, hc, hm, hl⟩ := hv
 refine Calls.walk (l := [.agg #[.slice a l.length c]]) Try.func18 rfl (by kernel_rfl) ?_
 refine WC.sub (K' := [(0, .agg #[.slice a l.length c])]) ⟨rfl, trivial⟩ ?_
 refine WC.seq (WC.region ?_)
 refine WL.step (post := NewBlk w 24 #[.slice a l.length c]) rfl rfl rfl (fun za zC zh zk => box_24 rfl (zh.ev rfl) (zk _ _ (newBlk _ _ _))) ?_
 rintro _ w1 ⟨g2, rfl, hg3, hB4, hb5, hz6⟩
 have hl7 : w.heap.size ≤ g2 := by omega
 refine WL.step (post := NewBlk w1 24 #[.slice none 0 0]) rfl rfl rfl (fun za zC zh zk => alloc_24 rfl (zk _ _ (newBlk _ _ _))) ?_
 rintro _ w8 ⟨g9, rfl, hg10, hB11, hb12, hz13⟩
 have hl14 : g2 < g9 := by have z1 := hB4.lt; omega
 have hl15 : w.heap.size ≤ g9 := by have z2 := (hb5).size; omega
 refine WL.nil (WE.next (WC.seq (WC.region ?_)))
 refine WL.step (post := NewBlk w8 24 #[.slice none 0 0]) rfl rfl rfl (fun za zC zh zk => alloc_24 rfl (zk _ _ (newBlk _ _ _))) ?_
 rintro _ w16 ⟨g17, rfl, hg18, hB19, hb20, hz21⟩
 have hl22 : g2 < g17 := by have z1 := hB4.lt; have z2 := (hb12).size; omega
 have hl23 : g9 < g17 := by have z1 := hB11.lt; omega
 have hb24 : Below w.heap.size w w8 := (bstep hb5 hb12)
 have hl25 : w.heap.size ≤ g17 := by have z2 := (hb24).size; omega
 refine WL.nil (WE.next (WC.seq (WC.region ?_)))
 refine WL.val _ rfl rfl rfl (fun za zC zh zk => fld_24_0 rfl (zh.ev rfl) zk) ?_
 refine WL.val _ rfl rfl rfl (fun za zC zh zk => ld_22 rfl (zh.ev rfl) ((hB19.cell 0).trans rfl) zk) ?_
 refine WL.val _ rfl rfl rfl (fun za zC zh zk => fld_24_0 rfl (zh.ev rfl) zk) ?_
 have hb27 : Below w1.heap.size w1 w16 := (bstep hb12 hb20)
 have hB26 := hB4.below hb27
 refine WL.val _ rfl rfl rfl (fun za zC zh zk => ld_22 rfl (zh.ev rfl) ((hB26.cell 0).trans rfl) zk) ?_
 have hl28 : g2 < w16.heap.size := by have z1 := hB26.lt; omega
 have hl29 : g9 < w16.heap.size := by have z1 := hB11.lt; have z2 := (hb20).size; omega
 have hl30 : g17 < w16.heap.size := by have z1 := hB19.lt; omega
 have hb32 : Below w.heap.size w w16 := (bstep hb5 hb27)
 have hl31 : w.heap.size ≤ w16.heap.size := (hb32).size
 refine WL.step (post := fun v w' => ∃ ra rc, v = .slice ra (0 + l.length) rc ∧ Own w' (fun b => w16.heap.size ≤ b) 66 3 ra rc (0 + l.length) ([] ++ (syCells l)) ∧ Chg (fun b => w16.heap.size ≤ b) w16 w') rfl rfl rfl (fun za zC zh zk => app_22 (S := (fun b => w16.heap.size ≤ b)) (xs := []) (news := (syCells l)) rfl (zh.ev rfl) (zh.ev rfl) own_nil (SrcIs.ofSys (IsSys.below hb32 hl)) (syCells_len _) (syCells_oneCell _) (by omega) (by omega) (by (try dsimp only at *); omega) (fun ra rc w' h1 h2 => zk _ _ ⟨ra, rc, rfl, h1, h2⟩)) ?_
 rintro _ w33 ⟨ra34, rc35, rfl, hr36, hc37⟩
 have hB38 := hB11.below hb20
 have hb39 := chg_below hb32 hc37 (fun b hb => (by (try dsimp only at *); omega))
 have hB40 := chg_blk hB26 hc37 (by (try dsimp only at *); omega)
 have hB41 := chg_blk hB38 hc37 (by (try dsimp only at *); omega)
 have hB42 := chg_blk hB19 hc37 (by (try dsimp only at *); omega)
 refine WL.val _ rfl rfl rfl (fun za zC zh zk => fld_24_0 rfl (zh.ev rfl) zk) ?_
 refine WL.step (post := fun _ w' => Upd g17 w33 w' ∧ Blk w' g17 24 #[.slice ra34 ((0 + l.length)) rc35]) rfl rfl rfl (fun za zC zh zk => st_22 rfl (zh.ev rfl) (zh.ev rfl) hB42 (by first | decide | simp) (fun v => zk v _ ⟨Upd.at_ _ _ _ _, hB42.set_ 0 _⟩)) ?_
 rintro v46 w43 ⟨hu44, hB45⟩
 have hb47 := upd_below hb39 hu44 (by omega)
 have hB48 := upd_blk hB40 hu44 (by omega)
 have hB49 := upd_blk hB41 hu44 (by omega)
 have hr50 := hr36.upd hu44 (by (try dsimp only at *); omega)
 refine WL.nil (WE.next (WC.seq (WC.region ?_)))
 refine WL.val _ rfl rfl rfl (fun za zC zh zk => ld_24 rfl (zh.ev rfl) ((hB45.cell 0).trans rfl) zk) ?_
 refine WL.step (post := fun _ w' => Upd g9 w43 w' ∧ Blk w' g9 24 #[.slice ra34 ((0 + l.length)) rc35]) rfl rfl rfl (fun za zC zh zk => st_24 rfl (zh.ev rfl) (zh.ev rfl) rfl hB49 (by first | decide | simp) (fun v => zk v _ ⟨Upd.at_ _ _ _ _, hB49.set_ 0 _⟩)) ?_
 rintro v54 w51 ⟨hu52, hB53⟩
 have hb55 := upd_below hb47 hu52 (by omega)
 have hB56 := upd_blk hB48 hu52 (by omega)
 have hB57 := upd_blk hB45 hu52 (by omega)
 have hr58 := hr50.upd hu52 (by (try dsimp only at *); omega)
 refine WL.nil (WE.next (WC.ret ?_))
 refine WE.retAny (v := .agg #[.slice ra34 ((0 + l.length)) rc35]) (fun za zh => ?_) ?_
 ·have z0 : za.tmps[2]?.getD undef = .pointer (some ⟨g9, 0, none⟩) := by rw [← Array.getD_eq_getD_getElem?]; exact zh.knows 2 _ rfl
  have y0 : w51.cell? ⟨g9, 0, none⟩ = some (.slice ra34 ((0 + l.length)) rc35) := ((hB53.cell 0).trans rfl)
  simp [results, Try.results18, z0, y0, go_sem]
 ·have z := hr58
  rw [Nat.zero_add, List.nil_append] at z
  exact ⟨_, rfl, ⟨_, _, by rw [Nat.zero_add], z.mono (fun b q _ => by (try dsimp only at q); omega)⟩, hb55⟩
set_option maxRecDepth 100000 in
theorem rbNew_any (sg : List Sy) (w : World) (v : Value) (hz : sg.length ≤ 4294967296) (hs : IsSig w sg v) : Calls Try.prog 19 #[v] w (Ret fun v' w' => ((sigCheck sg ≠ 0 ∧ v' = .tuple #[.pointer none, .int .i64 2]) ∨ (sigCheck sg = 0 ∧ ∃ g : Nat, v' = .tuple #[.pointer (some ⟨g, 0, none⟩), .int .i64 0] ∧ RbS w' g sg (fun b => w.heap.size ≤ b ∧ b < w'.heap.size) [])) ∧ Below w.heap.size w w') := by
 have hst := hs
 obtain ⟨a, c, rfl, hc, hm, hl⟩ := hs
 refine Calls.walk (l := [.agg #[.slice a sg.length c]]) Try.func19 rfl (by kernel_rfl) ?_
 refine WC.sub (K' := [(0, .agg #[.slice a sg.length c])]) ⟨rfl, trivial⟩ ?_
 refine WC.seq (WC.region ?_)
 refine WL.step (post := NewBlk w 24 #[.slice a sg.length c]) rfl rfl rfl (fun za zC zh zk => box_24 rfl (zh.ev rfl) (zk _ _ (newBlk _ _ _))) ?_
 rintro _ w1 ⟨g2, rfl, hg3, hB4, hb5, hz6⟩
 have hl7 : w.heap.size ≤ g2 := by omega
 refine WL.asg rfl rfl rfl rfl rfl (WL.asg rfl rfl rfl rfl rfl (WL.nil (WE.next (WC.seq (WC.seq (WC.region ?_))))))
 refine WL.val _ rfl rfl rfl (fun za zC zh zk => ld_24 rfl (zh.ev rfl) ((hB4.cell 0).trans rfl) zk) ?_
 refine WL.call rfl rfl rfl (fun za zh zC => wp_call (by kernel_rfl) rfl (hv1 (zh.ev rfl))) (ret_of (sigCheck_any sg _ _ (IsSig.below hb5 hst))) ?_
 rintro _ w9 ⟨rfl, hq8⟩
 refine WL.val (.bool ((((sigCheck sg) : Int) != (0 : Int)))) rfl rfl rfl (fun za zC zh zk => neq_3 rfl (zh.ev rfl) (zh.ev rfl) zk) ?_
 refine WL.nil (WE.next ?_)
 refine WC.cond rfl (fun h10 => ?_) (fun h10 => ?_)
 ·have h10 : ((sigCheck sg) : Int) ≠ (0 : Int) := by simpa using h10
  refine WC.seq (WC.region (WL.asg rfl rfl rfl rfl rfl (WL.asg rfl rfl rfl rfl rfl (WL.nil (WE.next (WC.ret (WE.thenRet (WE.ret2 rfl rfl rfl ?_))))))))
  have hb11 : Below w.heap.size w w9 := (bstep hb5 hq8)
  exact ⟨_, rfl, .inl ⟨by assumption, rfl⟩, hb11⟩
 ·have h10 : ¬ (((sigCheck sg) : Int) ≠ (0 : Int)) := by simpa using h10
  refine WC.skip (WE.next (WC.seq (WC.region ?_)))
  have hB12 := hB4.below hq8
  refine WL.val _ rfl rfl rfl (fun za zC zh zk => ld_24 rfl (zh.ev rfl) ((hB12.cell 0).trans rfl) zk) ?_
  have hb17 : Below w.heap.size w w9 := (bstep hb5 hq8)
  refine WL.call rfl rfl rfl (fun za zh zC => wp_call (by kernel_rfl) rfl (hv1 (zh.ev rfl))) (rcopyS_any sg _ _ hz (IsSig.below hb17 hst)) ?_
  rintro _ w18 ⟨⟨ra13, rc14, rfl, ho15⟩, hb16⟩
  refine WL.val (.agg #[.slice ra13 sg.length rc14, .slice none 0 0]) rfl rfl rfl (fun za zC zh zk => build_60_0 rfl (zh.ev rfl) zk) ?_
  refine WL.step (post := NewBlk w18 60 #[.slice ra13 sg.length rc14, .slice none 0 0]) rfl rfl rfl (fun za zC zh zk => box_60 rfl (zh.ev rfl) (zk _ _ (newBlk _ _ _))) ?_
  rintro _ w19 ⟨g20, rfl, hg21, hB22, hb23, hz24⟩
  have hl25 : g2 < g20 := by have z1 := hB12.lt; have z2 := (hb16).size; omega
  have hb26 : Below w.heap.size w w18 := (bstep hb17 hb16)
  have hl27 : w.heap.size ≤ g20 := by have z2 := (hb26).size; omega
  refine WL.asg rfl rfl rfl rfl rfl (WL.asg rfl rfl rfl rfl rfl (WL.nil (WE.next (WC.ret (WE.ret2 rfl rfl rfl ?_)))))
  have hb28 : Below w.heap.size w w19 := (bstep hb26 hb23)
  have hck9 : sigCheck sg = 0 := by first | assumption | (apply Classical.byContradiction; assumption)
  have hO9 := Own.below ho15 hb23
  have hwi := hb17.size
  have hgg := hB22.lt
  have hlo := Own.lt ho15
  have hge9 : w18.heap.size ≤ g20 := by first | assumption | omega
  refine ⟨_, rfl, .inr ⟨hck9, g20, rfl, fun _ => False, _, _, none, 0, ⟨hB22, ⟨hO9.1, fun b q => ⟨⟨Nat.le_trans hwi (hO9.2 b q), (Own.lt hO9 b q).2⟩, fun e => by have z := (hlo b q).2; omega, id, fun k => nomatch k⟩⟩, hl.wfs, RowD.nil, fun b q => q.elim, (fun b q => nomatch q), ⟨by have z := hb26.size; omega, hgg⟩, fun b q => q.2, .nil⟩⟩, hb28⟩
end Go.Proofs.Ytbohlpfndiiimaa

namespace Go.Proofs.Ytbohlpfndiiimaa
open Go.RowKit Go
set_option linter.unusedVariables false
set_option linter.unusedSimpArgs false
/-- What Replace leaves, and tells. -/
abbrev repX (N : List En) (n m : Nat) (p : List Int) : T := putX (tmE N m) p (tmE N n)
abbrev repO (N : List En) (n m : Nat) (p : List Int) : Bool := putOk (tmE N m) p (tmE N n)
def repN (sg : List Sy) (N : List En) (n m : Nat) (p : List Int) : List En := if repO N n m p = true then bputI sg N (repX N n m p) else N
def repV (sg : List Sy) (N : List En) (n m : Nat) (p : List Int) : Int := if repO N n m p = true then bputV sg N (repX N n m p) else 0
def repE (sg : List Sy) (N : List En) (n m : Nat) (p : List Int) : Int := if repO N n m p = true then chkI sg (repX N n m p) else 2
theorem repN_yes {sg : List Sy} {N : List En} {n m : Nat} {p : List Int} (h : repO N n m p = true) : repN sg N n m p = bputI sg N (repX N n m p) ∧ repV sg N n m p = bputV sg N (repX N n m p) ∧ repE sg N n m p = chkI sg (repX N n m p) := by
 unfold repN repV repE; rw [if_pos h, if_pos h, if_pos h]; exact ⟨rfl, rfl, rfl⟩
theorem repN_no {sg : List Sy} {N : List En} {n m : Nat} {p : List Int} (h : ¬ repO N n m p = true) : repN sg N n m p = N ∧ repV sg N n m p = 0 ∧ repE sg N n m p = 2 := by
 unfold repN repV repE; rw [if_neg h, if_neg h, if_neg h]; exact ⟨rfl, rfl, rfl⟩
theorem repX_size {N : List En} (h : NEk N) {n m : Nat} (hn : n < N.length) (hm : m < N.length) (p : List Int) : (repX N n m p).size ≤ 600 := by
 have z := putX_size (tmE N m) p (tmE N n)
 have z1 := (h.at_ hn).1
 have z2 := (h.at_ hm).1
 unfold repX; omega
theorem repN_len {sg : List Sy} {N : List En} (h : NEk N) (n m : Nat) (p : List Int) : (repN sg N n m p).length ≤ N.length + 300 := by
 by_cases c : repO N n m p = true
 ·rw [(repN_yes c).1]; exact bputI_len h
 ·rw [(repN_no c).1]; omega
theorem rbhas_yes (g : Nat) (sg : List Sy) (N : List En) (Y : Nat → Prop) {k : Nat} (w : World) (hk : k < N.length) (hK : RbS w g sg Y N) : Calls Try.prog 41 #[.pointer (some ⟨g, 0, none⟩), .int .i64 (k : Int)] w (Ret fun v' w' => v' = .bool true ∧ Below w.heap.size w w') := by
 have z := rbhas_any g sg N Y (k : Int) w hK
 rw [hasB_yes hk] at z
 exact z
set_option maxRecDepth 100000 in
theorem rbRep_no (g : Nat) (sg : List Sy) (N : List En) (Y : Nat → Prop) (n m : Int) (pv : Value) (w : World) (hh : (hasB N n && hasB N m) = false) (hK : RbS w g sg Y N) :
  Calls Try.prog 25 #[.pointer (some ⟨g, 0, none⟩), .int .i64 n, pv, .int .i64 m] w (Ret fun v' w' => v' = .tuple #[.int .i64 0, .int .i64 4] ∧ Below w.heap.size w w') := by
 skip
 have hK0 := hK
 obtain ⟨S9, sa, sc, ta, tc, hO⟩ := hK0
 have htl := tms_len N
 have hcp := hO.cap
 refine Calls.walk (l := [.pointer (some ⟨g, 0, none⟩), .int .i64 n, pv, .int .i64 m]) Try.func25 rfl (by kernel_rfl) ?_
 refine WC.sub (K' := [(0, .pointer (some ⟨g, 0, none⟩)), (1, .int .i64 n), (2, pv), (3, .int .i64 m)]) ⟨rfl, rfl, rfl, rfl, trivial⟩ ?_
 refine WC.seq (WC.region (WL.asg rfl rfl rfl rfl rfl (WL.asg rfl rfl rfl rfl rfl (WL.nil (WE.next (WC.seq (WC.seq ?_)))))))
 refine WC.opt [(true, .val (.pointer (some ⟨g, 0, none⟩))), (true, .val (.int .i64 n)), (true, .val (.bool ((hasB N n)))), (true, .val (.bool ((!(hasB N n))))), (true, .val (.bool ((!(hasB N n))))), ((true && !(!(hasB N n))), .val (.pointer (some ⟨g, 0, none⟩))), ((true && !(!(hasB N n))), .val (.int .i64 m)), ((true && !(!(hasB N n))), .val (.bool ((hasB N m)))), ((true && !(!(hasB N n))), .val (.bool ((!(hasB N m))))), (true, .val (.bool (((!(hasB N n)) || (!(hasB N m))))))] [(0, .pointer (some ⟨g, 0, none⟩)), (1, .int .i64 n), (2, pv), (3, .int .i64 m), (8, .int .i64 0), (9, .int .i64 0)] ⟨rfl, rfl, rfl, rfl, rfl, rfl, trivial⟩ (by kernel_rfl) (by kernel_rfl) (by kernel_rfl) ?_ ?_
 ·refine ⟨⟨true, .none rfl, fun h w => optUndef h, fun zβ za zw zc => ?_⟩, ?_⟩
  ·exact wp_move rfl (zc.kn.ev rfl) ⟨_, rfl, Below.refl _ _, optDef zβ rfl⟩
  refine ⟨⟨true, .none rfl, fun h w => optUndef h, fun zβ za zw zc => ?_⟩, ?_⟩
  ·exact wp_move rfl (zc.kn.ev rfl) ⟨_, rfl, Below.refl _ _, optDef zβ rfl⟩
  refine ⟨⟨true, .none rfl, fun h w => optUndef h, fun zβ za zw zc => ?_⟩, ?_⟩
  ·exact wp_call (by kernel_rfl) rfl (hv2 ((evt za 12).trans (optVal (zc.dep 0 12 (by kernel_rfl)) rfl rfl)) ((evt za 13).trans (optVal (zc.dep 1 13 (by kernel_rfl)) rfl rfl))) (rbhas_any g sg N Y n _ (RbS.below hK zc.below)) (fun v w' h => ⟨v, rfl, h.2, optDef zβ h.1⟩)
  refine ⟨⟨true, .none rfl, fun h w => optUndef h, fun zβ za zw zc => ?_⟩, ?_⟩
  ·exact wp_not rfl ((evt za 14).trans (optVal (zc.dep 2 14 (by kernel_rfl)) rfl rfl)) ⟨_, rfl, Below.refl _ _, optDef zβ rfl⟩
  refine ⟨⟨true, .none rfl, fun h w => optUndef h, fun zβ za zw zc => ?_⟩, ?_⟩
  ·exact wp_move rfl ((evt za 15).trans (optVal (zc.dep 3 15 (by kernel_rfl)) rfl rfl)) ⟨_, rfl, Below.refl _ _, optDef zβ rfl⟩
  refine ⟨⟨_, .no (d := true) rfl (fun v w h => h), fun h w => optUndef h, fun zβ za zw zc => ?_⟩, ?_⟩
  ·exact wp_move rfl (zc.kn.ev rfl) ⟨_, rfl, Below.refl _ _, optDef zβ rfl⟩
  refine ⟨⟨_, .no (d := true) rfl (fun v w h => h), fun h w => optUndef h, fun zβ za zw zc => ?_⟩, ?_⟩
  ·exact wp_move rfl (zc.kn.ev rfl) ⟨_, rfl, Below.refl _ _, optDef zβ rfl⟩
  refine ⟨⟨_, .no (d := true) rfl (fun v w h => h), fun h w => optUndef h, fun zβ za zw zc => ?_⟩, ?_⟩
  ·exact wp_call (by kernel_rfl) rfl (hv2 ((evt za 17).trans (optVal (zc.dep 5 17 (by kernel_rfl)) rfl zβ)) ((evt za 18).trans (optVal (zc.dep 6 18 (by kernel_rfl)) rfl zβ))) (rbhas_any g sg N Y m _ (RbS.below hK zc.below)) (fun v w' h => ⟨v, rfl, h.2, optDef zβ h.1⟩)
  refine ⟨⟨_, .no (d := true) rfl (fun v w h => h), fun h w => optUndef h, fun zβ za zw zc => ?_⟩, ?_⟩
  ·exact wp_not rfl ((evt za 19).trans (optVal (zc.dep 7 19 (by kernel_rfl)) rfl zβ)) ⟨_, rfl, Below.refl _ _, optDef zβ rfl⟩
  refine ⟨⟨true, .none rfl, fun h w => optUndef h, fun zβ za zw zc => ?_⟩, ?_⟩
  ·exact wp_or rfl ((evt za 16).trans (optVal (zc.dep 4 16 (by kernel_rfl)) rfl rfl)) (fun hp => ((evt za 20).trans (optVal (zc.dep 8 20 (by kernel_rfl)) rfl (bMkN zβ hp)))) ⟨_, rfl, Below.refl _ _, optDef zβ rfl⟩
  exact trivial
 ·intro za w1 zh hb2 zu
  have zh := zh.cons (d := 21) (v := .bool (((!(hasB N n)) || (!(hasB N m))))) (optVal (zu 9 21 (by kernel_rfl)) rfl rfl)
  clear zu
  refine WE.go zh ?_
  refine WE.next ?_
  refine WC.condT rfl ((by cases h1 : hasB N n <;> cases h2 : hasB N m <;> rw [h1, h2] at hh <;> simp_all)) ?_
  refine WC.seq (WC.region (WL.asg rfl rfl rfl rfl rfl (WL.asg rfl rfl rfl rfl rfl (WL.nil (WE.next (WC.ret (WE.thenRet (WE.ret2 rfl rfl rfl ?_))))))))
  exact ⟨_, rfl, rfl, hb2⟩
set_option maxRecDepth 100000 in
theorem rbRep_yes (g : Nat) (sg : List Sy) (N : List En) (Y : Nat → Prop) (n m : Nat) (p : List Int) (pa : Option Addr) (pc : Nat) (w : World) (hNl : N.length ≤ 900000) (hn : n < N.length) (hm : m < N.length) (hpc : pc ≤ maxLen) (hp : PIs w p pa pc) (hK : RbS w g sg Y N) :
  Calls Try.prog 25 #[.pointer (some ⟨g, 0, none⟩), .int .i64 (n : Int), .slice pa p.length pc, .int .i64 (m : Int)] w (Ret fun v' w' => v' = .tuple #[.int .i64 (repV sg N n m p), .int .i64 (repE sg N n m p)] ∧ (∃ Y', RbS w' g sg Y' (repN sg N n m p) ∧ ∀ b, Y' b → Y b ∨ w.heap.size ≤ b) ∧ Chg Y w w') := by
 have hok := hK.ok
 have hzn := (hok.at_ hn).1
 have hzm := (hok.at_ hm).1
 have hX6 := repX_size hok hn hm p
 have hK0 := hK
 obtain ⟨S9, sa, sc, ta, tc, hO⟩ := hK0
 have htl := tms_len N
 have hcp := hO.cap
 have hqz : (tmE N m).size ≤ 4294967296 := by omega
 have htz : (tmE N n).size ≤ 4294967296 := by omega
 refine Calls.walk (l := [.pointer (some ⟨g, 0, none⟩), .int .i64 (((n : Nat) : Int)), .slice pa p.length pc, .int .i64 (((m : Nat) : Int))]) Try.func25 rfl (by kernel_rfl) ?_
 refine WC.sub (K' := [(0, .pointer (some ⟨g, 0, none⟩)), (1, .int .i64 (((n : Nat) : Int))), (2, .slice pa p.length pc), (3, .int .i64 (((m : Nat) : Int)))]) ⟨rfl, rfl, rfl, rfl, trivial⟩ ?_
 refine WC.seq (WC.region (WL.asg rfl rfl rfl rfl rfl (WL.asg rfl rfl rfl rfl rfl (WL.nil (WE.next (WC.seq (WC.seq ?_)))))))
 refine WC.opt [(true, .val (.pointer (some ⟨g, 0, none⟩))), (true, .val (.int .i64 (((n : Nat) : Int)))), (true, .val (.bool true)), (true, .val (.bool false)), (true, .val (.bool false)), ((true && !false), .val (.pointer (some ⟨g, 0, none⟩))), ((true && !false), .val (.int .i64 (((m : Nat) : Int)))), ((true && !false), .val (.bool true)), ((true && !false), .val (.bool ((!true)))), (true, .val (.bool ((!true))))] [(0, .pointer (some ⟨g, 0, none⟩)), (1, .int .i64 (((n : Nat) : Int))), (2, .slice pa p.length pc), (3, .int .i64 (((m : Nat) : Int))), (8, .int .i64 0), (9, .int .i64 0)] ⟨rfl, rfl, rfl, rfl, rfl, rfl, trivial⟩ (by kernel_rfl) (by kernel_rfl) (by kernel_rfl) ?_ ?_
 ·refine ⟨⟨true, .none rfl, fun h w => optUndef h, fun zβ za zw zc => ?_⟩, ?_⟩
  ·exact wp_move rfl (zc.kn.ev rfl) ⟨_, rfl, Below.refl _ _, optDef zβ rfl⟩
  refine ⟨⟨true, .none rfl, fun h w => optUndef h, fun zβ za zw zc => ?_⟩, ?_⟩
  ·exact wp_move rfl (zc.kn.ev rfl) ⟨_, rfl, Below.refl _ _, optDef zβ rfl⟩
  refine ⟨⟨true, .none rfl, fun h w => optUndef h, fun zβ za zw zc => ?_⟩, ?_⟩
  ·exact wp_call (by kernel_rfl) rfl (hv2 ((evt za 12).trans (optVal (zc.dep 0 12 (by kernel_rfl)) rfl rfl)) ((evt za 13).trans (optVal (zc.dep 1 13 (by kernel_rfl)) rfl rfl))) (rbhas_yes g sg N Y _ hn (RbS.below hK zc.below)) (fun v w' h => ⟨v, rfl, h.2, optDef zβ h.1⟩)
  refine ⟨⟨true, .none rfl, fun h w => optUndef h, fun zβ za zw zc => ?_⟩, ?_⟩
  ·exact wp_not rfl ((evt za 14).trans (optVal (zc.dep 2 14 (by kernel_rfl)) rfl rfl)) ⟨_, rfl, Below.refl _ _, optDef zβ rfl⟩
  refine ⟨⟨true, .none rfl, fun h w => optUndef h, fun zβ za zw zc => ?_⟩, ?_⟩
  ·exact wp_move rfl ((evt za 15).trans (optVal (zc.dep 3 15 (by kernel_rfl)) rfl rfl)) ⟨_, rfl, Below.refl _ _, optDef zβ rfl⟩
  refine ⟨⟨_, .no (d := true) rfl (fun v w h => h), fun h w => optUndef h, fun zβ za zw zc => ?_⟩, ?_⟩
  ·exact wp_move rfl (zc.kn.ev rfl) ⟨_, rfl, Below.refl _ _, optDef zβ rfl⟩
  refine ⟨⟨_, .no (d := true) rfl (fun v w h => h), fun h w => optUndef h, fun zβ za zw zc => ?_⟩, ?_⟩
  ·exact wp_move rfl (zc.kn.ev rfl) ⟨_, rfl, Below.refl _ _, optDef zβ rfl⟩
  refine ⟨⟨_, .no (d := true) rfl (fun v w h => h), fun h w => optUndef h, fun zβ za zw zc => ?_⟩, ?_⟩
  ·exact wp_call (by kernel_rfl) rfl (hv2 ((evt za 17).trans (optVal (zc.dep 5 17 (by kernel_rfl)) rfl rfl)) ((evt za 18).trans (optVal (zc.dep 6 18 (by kernel_rfl)) rfl rfl))) (rbhas_yes g sg N Y _ hm (RbS.below hK zc.below)) (fun v w' h => ⟨v, rfl, h.2, optDef zβ h.1⟩)
  refine ⟨⟨_, .no (d := true) rfl (fun v w h => h), fun h w => optUndef h, fun zβ za zw zc => ?_⟩, ?_⟩
  ·exact wp_not rfl ((evt za 19).trans (optVal (zc.dep 7 19 (by kernel_rfl)) rfl rfl)) ⟨_, rfl, Below.refl _ _, optDef zβ rfl⟩
  refine ⟨⟨true, .none rfl, fun h w => optUndef h, fun zβ za zw zc => ?_⟩, ?_⟩
  ·exact wp_pickF rfl ((evt za 16).trans (optVal (zc.dep 4 16 (by kernel_rfl)) rfl rfl)) ((evt za 20).trans (optVal (zc.dep 8 20 (by kernel_rfl)) rfl rfl)) ⟨_, rfl, Below.refl _ _, optDef zβ rfl⟩
  exact trivial
 ·intro za w1 zh hb2 zu
  have zh := zh.cons (d := 21) (v := .bool ((!true))) (optVal (zu 9 21 (by kernel_rfl)) rfl rfl)
  clear zu
  refine WE.go zh ?_
  refine WE.next ?_
  refine WC.condF rfl (rfl) ?_
  refine WC.skip (WE.next (WC.seq ?_))
  have hc3 := bkeeps hb2 _ _ hO.c1
  obtain ⟨b4, o5, A6, C7, ha8, hc9⟩ := IsTs.open hO.ts
  refine WC.boxV (fun zq => match zq with | 0 => fun zS zw zv => ∃ zu, zv = .tuple #[zu, .bool ((repO N n m p))] ∧ InT zS zw ((repX N n m p)) zu | 1 => fun zS zw zv => ∃ zu, zv = .tuple #[zu, .bool ((repO N n m p))] ∧ InT zS zw ((repX N n m p)) zu | _ + 2 => fun zS zw zv => InT zS zw ((repX N n m p)) zv) (fun zq => match zq with | 0 => fun zv => ∃ zu, zv = .tuple #[zu, .bool ((repO N n m p))] | 1 => fun zv => ∃ zu, zv = .tuple #[zu, .bool ((repO N n m p))] | _ + 2 => fun zv => True) (fun zq _ _ _ _ hk h => match zq, h with | 0, h => by obtain ⟨u, e, h1⟩ := h; exact ⟨u, e, InT.keep hk h1⟩ | 1, h => by obtain ⟨u, e, h1⟩ := h; exact ⟨u, e, InT.keep hk h1⟩ | _ + 2, h => InT.keep hk h) (fun zq _ _ _ _ hk h => match zq, h with | 0, h => by obtain ⟨u, e, h1⟩ := h; exact ⟨u, e, InT.mono hk h1⟩ | 1, h => by obtain ⟨u, e, h1⟩ := h; exact ⟨u, e, InT.mono hk h1⟩ | _ + 2, h => InT.mono hk h) [(true, .pointer (some ⟨g, 0, none⟩)), (true, .pointer (some ⟨g, 0, none⟩)), (true, .pointer (some ⟨g, 1, none⟩)), (true, .slice ta N.length tc), (true, .int .i64 (((n : Nat) : Int))), (true, .pointer (some ⟨b4, o5 + n * 2, none⟩)), (true, .agg #[.int .i64 ((tget ((tms N)) n).f), .slice ((A6 n)) ((tget ((tms N)) n).args.length) ((C7 n))]), (true, .slice pa p.length pc), (true, .pointer (some ⟨g, 0, none⟩)), (true, .pointer (some ⟨g, 0, none⟩)), (true, .pointer (some ⟨g, 1, none⟩)), (true, .slice ta N.length tc), (true, .int .i64 (((m : Nat) : Int))), (true, .pointer (some ⟨b4, o5 + m * 2, none⟩)), (true, .agg #[.int .i64 ((tget ((tms N)) m).f), .slice ((A6 m)) ((tget ((tms N)) m).args.length) ((C7 m))]), (true, undef), (true, undef), (true, undef), (true, .bool ((repO N n m p))), (true, undef), (true, undef), (true, .bool ((repO N n m p)))] [(0, .pointer (some ⟨g, 0, none⟩)), (1, .int .i64 (((n : Nat) : Int))), (2, .slice pa p.length pc), (3, .int .i64 (((m : Nat) : Int))), (8, .int .i64 0), (9, .int .i64 0), (21, .bool ((!true)))] (t := 35) (z := #[.int .i64 0, .slice none 0 0]) [15, 16, 17] 2 19 20 10 (by decide) (by decide) (by kernel_rfl) rfl ⟨rfl, rfl, rfl, rfl, rfl, rfl, rfl, trivial⟩ (by kernel_rfl) (by kernel_rfl) (by kernel_rfl) ?_ ?_
  ·refine ⟨.inl ⟨rfl, rfl, fun za zw zS zc => ?_⟩, ?_⟩
   ·exact wp_move rfl (zc.kn.ev rfl) ⟨_, rfl, Below.refl _ _, fun _ => rfl⟩
   refine ⟨.inl ⟨rfl, rfl, fun za zw zS zc => ?_⟩, ?_⟩
   ·exact nilCheck_ rfl ((evt za 23).trans (valVal1 (zc.dep 0 23 (by kernel_rfl) (by decide)) rfl rfl)) ⟨_, rfl, Below.refl _ _, fun _ => rfl⟩
   refine ⟨.inl ⟨rfl, rfl, fun za zw zS zc => ?_⟩, ?_⟩
   ·exact fld_60_1 rfl ((evt za 24).trans (valVal1 (zc.dep 1 24 (by kernel_rfl) (by decide)) rfl rfl)) ⟨_, rfl, Below.refl _ _, fun _ => rfl⟩
   refine ⟨.inl ⟨rfl, rfl, fun za zw zS zc => ?_⟩, ?_⟩
   ·exact ld_25 rfl ((evt za 25).trans (valVal1 (zc.dep 2 25 (by kernel_rfl) (by decide)) rfl rfl)) (bkeeps zc.below _ _ hc3) ⟨_, rfl, Below.refl _ _, fun _ => rfl⟩
   refine ⟨.inl ⟨rfl, rfl, fun za zw zS zc => ?_⟩, ?_⟩
   ·exact wp_move rfl (zc.kn.ev rfl) ⟨_, rfl, Below.refl _ _, fun _ => rfl⟩
   refine ⟨.inl ⟨rfl, rfl, fun za zw zS zc => ?_⟩, ?_⟩
   ·exact ix_25 (k := n) rfl ((evt za 26).trans (valVal1 (zc.dep 3 26 (by kernel_rfl) (by decide)) rfl rfl)) (ha8 n (by first | omega | (simp; omega))) ((evt za 27).trans (valVal1 (zc.dep 4 27 (by kernel_rfl) (by decide)) rfl rfl)) (by first | omega | (simp; omega)) ⟨_, rfl, Below.refl _ _, fun _ => rfl⟩
   refine ⟨.inl ⟨rfl, rfl, fun za zw zS zc => ?_⟩, ?_⟩
   ·exact ld_35 rfl ((evt za 28).trans (valVal1 (zc.dep 5 28 (by kernel_rfl) (by decide)) rfl rfl)) (bkeeps (bstep hb2 zc.below) _ _ (hc9 n (by first | omega | (simp; omega))).1) (bkeeps (bstep hb2 zc.below) _ _ (hc9 n (by first | omega | (simp; omega))).2.1) ⟨_, rfl, Below.refl _ _, fun _ => rfl⟩
   refine ⟨.inl ⟨rfl, rfl, fun za zw zS zc => ?_⟩, ?_⟩
   ·exact wp_move rfl (zc.kn.ev rfl) ⟨_, rfl, Below.refl _ _, fun _ => rfl⟩
   refine ⟨.inl ⟨rfl, rfl, fun za zw zS zc => ?_⟩, ?_⟩
   ·exact wp_move rfl (zc.kn.ev rfl) ⟨_, rfl, Below.refl _ _, fun _ => rfl⟩
   refine ⟨.inl ⟨rfl, rfl, fun za zw zS zc => ?_⟩, ?_⟩
   ·exact nilCheck_ rfl ((evt za 31).trans (valVal1 (zc.dep 8 31 (by kernel_rfl) (by decide)) rfl rfl)) ⟨_, rfl, Below.refl _ _, fun _ => rfl⟩
   refine ⟨.inl ⟨rfl, rfl, fun za zw zS zc => ?_⟩, ?_⟩
   ·exact fld_60_1 rfl ((evt za 32).trans (valVal1 (zc.dep 9 32 (by kernel_rfl) (by decide)) rfl rfl)) ⟨_, rfl, Below.refl _ _, fun _ => rfl⟩
   refine ⟨.inl ⟨rfl, rfl, fun za zw zS zc => ?_⟩, ?_⟩
   ·exact ld_25 rfl ((evt za 33).trans (valVal1 (zc.dep 10 33 (by kernel_rfl) (by decide)) rfl rfl)) (bkeeps zc.below _ _ hc3) ⟨_, rfl, Below.refl _ _, fun _ => rfl⟩
   refine ⟨.inl ⟨rfl, rfl, fun za zw zS zc => ?_⟩, ?_⟩
   ·exact wp_move rfl (zc.kn.ev rfl) ⟨_, rfl, Below.refl _ _, fun _ => rfl⟩
   refine ⟨.inl ⟨rfl, rfl, fun za zw zS zc => ?_⟩, ?_⟩
   ·exact ix_25 (k := m) rfl ((evt za 34).trans (valVal1 (zc.dep 11 34 (by kernel_rfl) (by decide)) rfl rfl)) (ha8 m (by first | omega | (simp; omega))) ((evt za 35).trans (valVal1 (zc.dep 12 35 (by kernel_rfl) (by decide)) rfl rfl)) (by first | omega | (simp; omega)) ⟨_, rfl, Below.refl _ _, fun _ => rfl⟩
   refine ⟨.inl ⟨rfl, rfl, fun za zw zS zc => ?_⟩, ?_⟩
   ·exact ld_35 rfl ((evt za 36).trans (valVal1 (zc.dep 13 36 (by kernel_rfl) (by decide)) rfl rfl)) (bkeeps (bstep hb2 zc.below) _ _ (hc9 m (by first | omega | (simp; omega))).1) (bkeeps (bstep hb2 zc.below) _ _ (hc9 m (by first | omega | (simp; omega))).2.1) ⟨_, rfl, Below.refl _ _, fun _ => rfl⟩
   refine ⟨.inr (.inl ⟨0, rfl, rfl, by kernel_rfl, fun za zw zS zc => ?_⟩), ?_⟩
   ·exact wp_call (by kernel_rfl) rfl (hv3 ((evt za 29).trans (valVal1 (zc.dep 6 29 (by kernel_rfl) (by decide)) rfl rfl)) ((evt za 30).trans (valVal1 (zc.dep 7 30 (by kernel_rfl) (by decide)) rfl rfl)) ((evt za 37).trans (valVal1 (zc.dep 14 37 (by kernel_rfl) (by decide)) rfl rfl))) (rput_any (tmE N m) hqz p (tmE N n) _ _ _ pa pc htz hpc (by rw [← tms_get hn]; exact (IsT.below (bstep hb2 zc.below) (hc9 n (by first | omega | (simp; omega))).2.2)) (PIs.below hp (bstep hb2 zc.below)) (by rw [← tms_get hm]; exact (IsT.below (bstep hb2 zc.below) (hc9 m (by first | omega | (simp; omega))).2.2))) (fun v w' h => by obtain ⟨⟨u, e, h1⟩, h2⟩ := h; exact ⟨v, rfl, h2, ⟨u, e, InT.mono (fun b hb _ => .inr hb) h1⟩, ⟨u, e⟩⟩)
   refine ⟨.inr (.inl ⟨1, rfl, rfl, by kernel_rfl, fun za zw zS zc => ?_⟩), ?_⟩
   ·obtain ⟨u, e, h1⟩ := (zc.made 0 15 38 rfl (by kernel_rfl) (by kernel_rfl))
    exact wp_move rfl ((evt za 38).trans e) ⟨_, rfl, Below.refl _ _, ⟨u, rfl, InT.mono (fun b hb _ => .inl hb) h1⟩, ⟨u, rfl⟩⟩
   refine ⟨.inr (.inl ⟨2, rfl, rfl, by kernel_rfl, fun za zw zS zc => ?_⟩), ?_⟩
   ·obtain ⟨u, e, h1⟩ := (zc.made 1 16 22 rfl (by kernel_rfl) (by kernel_rfl))
    exact ext2_0 rfl ((evt za 22).trans e) ⟨u, rfl, Below.refl _ _, InT.mono (fun b hb _ => .inl hb) h1, trivial⟩
   refine ⟨.inl ⟨rfl, rfl, fun za zw zS zc => ?_⟩, ?_⟩
   ·obtain ⟨u, e⟩ := (zc.told 1 16 22 rfl (by kernel_rfl))
    exact ext2_1 rfl ((evt za 22).trans e) ⟨_, rfl, Below.refl _ _, fun _ => rfl⟩
   refine ⟨.inr (.inr (.inl ⟨rfl, rfl, fun za zw zS zc => ?_⟩)), ?_⟩
   ·exact alloc_35 rfl ⟨rfl, rfl⟩
   refine ⟨.inr (.inr (.inr ⟨rfl, rfl, 10, 39, 17, by kernel_rfl, rfl, by kernel_rfl, fun za zw g zS zc z1 zB zP => ?_⟩)), ?_⟩
   ·obtain ⟨_, a1, c1, e1, _⟩ := InT.form zP
    rw [e1]
    exact st_35 rfl ((evt za 10).trans z1) ((evt za 39).trans e1) rfl rfl zB (by first | decide | simp) (fun v => ⟨v, rfl, (Upd.at_ _ _ _ _).trans (Upd.at_ _ _ _ _), (zB.set_ 0 _).set_ 1 _⟩)
   refine ⟨.inl ⟨rfl, rfl, fun za zw zS zc => ?_⟩, ?_⟩
   ·exact wp_assign rfl ((evt za 40).trans (valVal1 (zc.dep 18 40 (by kernel_rfl) (by decide)) rfl rfl)) ⟨_, rfl, Below.refl _ _, fun _ => rfl⟩
   exact trivial
  ·intro za w10 g11 vy12 zh hb13 hg14 hB15 hP16 hp17 zu
   obtain ⟨_, a18, c19, rfl, _, _, _⟩ := InT.form hP16
   have hB20 : Blk w10 g11 35 #[.int .i64 (((repX N n m p)).f), .slice a18 (((repX N n m p)).args.length) c19] := hB15
   have zh := zh.cons (d := 10) hp17
   have zh := zh.cons (d := 11) (v := .bool ((repO N n m p))) (valVal1 (zu 21 11 (by kernel_rfl) (by decide)) rfl rfl)
   clear zu
   have hP21 : InT (fun b => w1.heap.size ≤ b ∧ b ≠ g11) w10 ((repX N n m p)) (.agg #[.int .i64 (((repX N n m p)).f), .slice a18 (((repX N n m p)).args.length) c19]) := hP16
   refine WE.go zh ?_
   refine WE.next (WC.seq (WC.seq (WC.region (WL.mv rfl rfl rfl rfl rfl ?_))))
   refine WL.val (.bool ((!(repO N n m p)))) rfl rfl rfl (fun za zC zh zk => wp_not rfl (zh.ev rfl) zk) ?_
   refine WL.nil (WE.next ?_)
   refine WC.cond rfl (fun h22 => ?_) (fun h22 => ?_)
   ·have h22 : ¬ ((repO N n m p) = true) := by simpa using h22
    have hro : ¬ repO N n m p = true := by simpa using h22
    refine WC.seq (WC.region (WL.asg rfl rfl rfl rfl rfl (WL.asg rfl rfl rfl rfl rfl (WL.nil (WE.next (WC.ret (WE.thenRet (WE.ret2 rfl rfl rfl ?_))))))))
    have hb23 : Below w.heap.size w w10 := (bstep hb2 hb13)
    obtain ⟨e1, e2, e3⟩ := repN_no (sg := sg) hro
    rw [e1, e2, e3]
    exact ⟨_, rfl, rfl, ⟨Y, RbS.below hK hb23, fun b q => .inl q⟩, .ofBelow hb23⟩
   ·have h22 : ¬ (¬ ((repO N n m p) = true)) := by simpa using h22
    have hro : repO N n m p = true := by simpa using h22
    refine WC.skip (WE.next (WC.seq (WC.region (WL.mv rfl rfl rfl rfl rfl ?_))))
    refine WL.val _ rfl rfl rfl (fun za zC zh zk => ld_35 rfl (zh.ev rfl) ((hB20.cell 0).trans rfl) ((hB20.cell 1).trans rfl) zk) ?_
    have hb24 : Below w.heap.size w w10 := (bstep hb2 hb13)
    have hbW := (hb24).size
    have hb3 := hb13.size
    have hYl := hK.lt
    have hw3 := hb2.size
    refine WL.call rfl rfl rfl (fun za zh zC => wp_call (by kernel_rfl) rfl (hv2 (zh.ev rfl) (zh.ev rfl))) (rbPut_any g sg (repX N n m p) N Y (fun b => w1.heap.size ≤ b ∧ b < w10.heap.size) _ _ (by omega) hNl (RbS.below hK hb24) (InT.mono (fun b q hlt => ⟨q.1, hlt⟩) hP21) (fun b q => ⟨fun k => by have z := hYl b k; omega, q.2⟩)) ?_
    rintro _ w29 ⟨rfl, ⟨Z25, hK26, hZ27⟩, hc28⟩
    have hC30 := Chg.trans (.ofBelow hb24) hc28
    refine WL.val (.int .i64 ((bputV sg N (repX N n m p)))) rfl rfl rfl (fun za zC zh zk => ext2_0 rfl (zh.ev rfl) zk) ?_
    refine WL.val (.int .i64 ((chkI sg (repX N n m p)))) rfl rfl rfl (fun za zC zh zk => ext2_1 rfl (zh.ev rfl) zk) ?_
    refine WL.asg rfl rfl rfl rfl rfl (WL.asg rfl rfl rfl rfl rfl (WL.nil (WE.next (WC.ret (WE.ret2 rfl rfl rfl ?_)))))
    obtain ⟨e1, e2, e3⟩ := repN_yes (sg := sg) hro
    rw [e1, e2, e3]
    exact ⟨_, rfl, rfl, ⟨Z25, hK26, fun b q => by rcases hZ27 b q with z | z; exact .inl z; (right; omega)⟩, hC30⟩
set_option maxRecDepth 100000 in
theorem bhasI_any (g : Nat) (sg : Value) (Z : Nat → Prop) (N : List En) (w : World) (n : Int) (hK : BkIs w g sg Z N) :
  Calls Try.prog 33 #[.pointer (some ⟨g, 0, none⟩), .int .i64 n] w (Ret fun v' w' => v' = .bool (hasB N n) ∧ Below w.heap.size w w') := by
 have h := hK
 obtain ⟨S9, m, la, lc, L, R, hb, hw, hz, hl⟩ := h
 have hnl := hw.len
 refine Calls.walk (l := [.pointer (some ⟨g, 0, none⟩), .int .i64 n]) Try.func33 rfl (by kernel_rfl) ?_
 refine WC.sub (K' := [(0, .pointer (some ⟨g, 0, none⟩)), (1, .int .i64 n)]) ⟨rfl, rfl, trivial⟩ ?_
 refine WC.seq (WC.region (WL.asg rfl rfl rfl rfl rfl (WL.nil (WE.next (WC.seq (WC.region (WL.mv rfl rfl rfl rfl rfl ?_)))))))
 refine WL.call rfl rfl rfl (fun za zh zC => wp_call (by kernel_rfl) rfl (hv1 (zh.ev rfl))) (bok_any g sg Z N _ (BkIs.below hK (Below.refl _ _))) ?_
 rintro _ w2 ⟨rfl, hq1⟩
 refine WL.mv rfl rfl rfl rfl rfl ?_
 refine WL.want (d := 7) rfl rfl rfl ?_
 refine WL.mv rfl rfl rfl rfl rfl ?_
 refine WL.want (d := 7) rfl rfl rfl ?_
 refine WL.val (.bool ((decide ((0 : Int) ≤ (n : Int))))) rfl rfl rfl (fun za zC zh zk => geq_3 rfl (zh.ev rfl) (zh.ev rfl) zk) ?_
 refine WL.val (.bool ((decide ((0 : Int) ≤ (n : Int))))) rfl rfl rfl (fun za zC zh zk => wp_pickT rfl (zh.ev rfl) (zh.ev rfl) zk) ?_
 refine WL.mv rfl rfl rfl rfl rfl ?_
 refine bool_split ((decide ((0 : Int) ≤ (n : Int)))) (fun h3 => ?_) (fun h3 => ?_)
 ·refine WL.setb (d := 11) (b := true) rfl h3 ?_
  have h3 : (0 : Int) ≤ (n : Int) := by simpa using h3
  refine WL.want (d := 11) rfl rfl rfl ?_
  refine WL.mv rfl rfl rfl rfl rfl ?_
  refine WL.want (d := 11) rfl rfl rfl ?_
  refine WL.mv rfl rfl rfl rfl rfl ?_
  refine WL.want (d := 11) rfl rfl rfl ?_
  refine WL.val _ rfl rfl rfl (fun za zC zh zk => nilCheck_ rfl (zh.ev rfl) zk) ?_
  refine WL.want (d := 11) rfl rfl rfl ?_
  refine WL.val _ rfl rfl rfl (fun za zC zh zk => fld_70_1 rfl (zh.ev rfl) zk) ?_
  refine WL.want (d := 11) rfl rfl rfl ?_
  have hc4 := bkeeps hq1 _ _ hb.c1
  refine WL.val _ rfl rfl rfl (fun za zC zh zk => ld_68 rfl (zh.ev rfl) hc4 zk) ?_
  refine WL.want (d := 11) rfl rfl rfl ?_
  refine WL.val (.int .i64 (((L.length : Nat) : Int))) rfl rfl rfl (fun za zC zh zk => len_68 rfl (zh.ev rfl) zk) ?_
  refine WL.want (d := 11) rfl rfl rfl ?_
  refine WL.val (.bool ((decide ((n : Int) < (((L.length : Nat) : Int) : Int))))) rfl rfl rfl (fun za zC zh zk => lss_3 rfl (zh.ev rfl) (zh.ev rfl) zk) ?_
  refine WL.val (.bool ((decide ((n : Int) < (((L.length : Nat) : Int) : Int))))) rfl rfl rfl (fun za zC zh zk => wp_pickT rfl (zh.ev rfl) (zh.ev rfl) zk) ?_
  refine WL.asg rfl rfl rfl rfl rfl (WL.nil (WE.next (WC.ret (WE.ret1 rfl rfl ?_))))
  exact ⟨_, rfl, congrArg Value.bool (by unfold hasB; rw [← hnl]; simp; omega), hq1⟩
 ·refine WL.setb (d := 11) (b := false) rfl h3 ?_
  have h3 : ¬ ((0 : Int) ≤ (n : Int)) := by simpa using h3
  refine WL.skip (d := 11) rfl rfl rfl rfl rfl ?_
  refine WL.skip (d := 11) rfl rfl rfl rfl rfl ?_
  refine WL.skip (d := 11) rfl rfl rfl rfl rfl ?_
  refine WL.skip (d := 11) rfl rfl rfl rfl rfl ?_
  refine WL.skip (d := 11) rfl rfl rfl rfl rfl ?_
  refine WL.skip (d := 11) rfl rfl rfl rfl rfl ?_
  refine WL.skip (d := 11) rfl rfl rfl rfl rfl ?_
  refine WL.val (.bool false) rfl rfl rfl (fun za zC zh zk => wp_pickF rfl (zh.ev rfl) (zh.ev rfl) zk) ?_
  refine WL.asg rfl rfl rfl rfl rfl (WL.nil (WE.next (WC.ret (WE.ret1 rfl rfl ?_))))
  exact ⟨_, rfl, congrArg Value.bool (by unfold hasB; rw [← hnl]; simp; omega), hq1⟩
set_option maxRecDepth 100000 in
theorem bRep_no (g : Nat) (sg : List Sy) (N : List En) (Y : Nat → Prop) (n m : Int) (pv : Value) (w : World) (hh : (hasB N n && hasB N m) = false) (hK : BkS w g sg Y N) :
  Calls Try.prog 24 #[.pointer (some ⟨g, 0, none⟩), .int .i64 n, pv, .int .i64 m] w (Ret fun v' w' => v' = .tuple #[.int .i64 0, .int .i64 4] ∧ Below w.heap.size w w') := by
 obtain ⟨Z, sa, sc, hBk⟩ := hK.is
 refine Calls.walk (l := [.pointer (some ⟨g, 0, none⟩), .int .i64 n, pv, .int .i64 m]) Try.func24 rfl (by kernel_rfl) ?_
 refine WC.sub (K' := [(0, .pointer (some ⟨g, 0, none⟩)), (1, .int .i64 n), (2, pv), (3, .int .i64 m)]) ⟨rfl, rfl, rfl, rfl, trivial⟩ ?_
 refine WC.seq (WC.region (WL.asg rfl rfl rfl rfl rfl (WL.asg rfl rfl rfl rfl rfl (WL.nil (WE.next (WC.seq (WC.block (WC.seq (WC.region (WL.mv rfl rfl rfl rfl rfl ?_))))))))))
 refine WL.call rfl rfl rfl (fun za zh zC => wp_call (by kernel_rfl) rfl (hv1 (zh.ev rfl))) (bok_any g _ Z N _ (BkIs.below hBk (Below.refl _ _))) ?_
 rintro _ w2 ⟨rfl, hq1⟩
 refine WL.val (.bool false) rfl rfl rfl (fun za zC zh zk => wp_not rfl (zh.ev rfl) zk) ?_
 refine WL.asg rfl rfl rfl rfl rfl (WL.nil (WE.next ?_))
 refine WC.condF rfl rfl ?_
 refine WC.seq ?_
 refine WC.opt [(true, .val (.pointer (some ⟨g, 0, none⟩))), (true, .val (.int .i64 n)), (true, .val (.bool ((hasB N n)))), (true, .val (.bool ((!(hasB N n))))), (true, .val (.bool ((!(hasB N n))))), ((true && !(!(hasB N n))), .val (.pointer (some ⟨g, 0, none⟩))), ((true && !(!(hasB N n))), .val (.int .i64 m)), ((true && !(!(hasB N n))), .val (.bool ((hasB N m)))), ((true && !(!(hasB N n))), .val (.bool ((!(hasB N m))))), (true, .val (.bool (((!(hasB N n)) || (!(hasB N m)))))), (true, .val (.bool (((!(hasB N n)) || (!(hasB N m))))))] [(0, .pointer (some ⟨g, 0, none⟩)), (1, .int .i64 n), (2, pv), (3, .int .i64 m), (8, .int .i64 0), (9, .int .i64 0), (12, .bool false)] ⟨rfl, rfl, rfl, rfl, rfl, rfl, rfl, trivial⟩ (by kernel_rfl) (by kernel_rfl) (by kernel_rfl) ?_ ?_
 ·refine ⟨⟨true, .none rfl, fun h w => optUndef h, fun zβ za zw zc => ?_⟩, ?_⟩
  ·exact wp_move rfl (zc.kn.ev rfl) ⟨_, rfl, Below.refl _ _, optDef zβ rfl⟩
  refine ⟨⟨true, .none rfl, fun h w => optUndef h, fun zβ za zw zc => ?_⟩, ?_⟩
  ·exact wp_move rfl (zc.kn.ev rfl) ⟨_, rfl, Below.refl _ _, optDef zβ rfl⟩
  refine ⟨⟨true, .none rfl, fun h w => optUndef h, fun zβ za zw zc => ?_⟩, ?_⟩
  ·exact wp_call (by kernel_rfl) rfl (hv2 ((evt za 17).trans (optVal (zc.dep 0 17 (by kernel_rfl)) rfl rfl)) ((evt za 18).trans (optVal (zc.dep 1 18 (by kernel_rfl)) rfl rfl))) (bhasI_any g _ Z N _ n (BkIs.below hBk (bstep hq1 zc.below))) (fun v w' h => ⟨v, rfl, h.2, optDef zβ h.1⟩)
  refine ⟨⟨true, .none rfl, fun h w => optUndef h, fun zβ za zw zc => ?_⟩, ?_⟩
  ·exact wp_not rfl ((evt za 19).trans (optVal (zc.dep 2 19 (by kernel_rfl)) rfl rfl)) ⟨_, rfl, Below.refl _ _, optDef zβ rfl⟩
  refine ⟨⟨true, .none rfl, fun h w => optUndef h, fun zβ za zw zc => ?_⟩, ?_⟩
  ·exact wp_move rfl ((evt za 20).trans (optVal (zc.dep 3 20 (by kernel_rfl)) rfl rfl)) ⟨_, rfl, Below.refl _ _, optDef zβ rfl⟩
  refine ⟨⟨_, .no (d := true) rfl (fun v w h => h), fun h w => optUndef h, fun zβ za zw zc => ?_⟩, ?_⟩
  ·exact wp_move rfl (zc.kn.ev rfl) ⟨_, rfl, Below.refl _ _, optDef zβ rfl⟩
  refine ⟨⟨_, .no (d := true) rfl (fun v w h => h), fun h w => optUndef h, fun zβ za zw zc => ?_⟩, ?_⟩
  ·exact wp_move rfl (zc.kn.ev rfl) ⟨_, rfl, Below.refl _ _, optDef zβ rfl⟩
  refine ⟨⟨_, .no (d := true) rfl (fun v w h => h), fun h w => optUndef h, fun zβ za zw zc => ?_⟩, ?_⟩
  ·exact wp_call (by kernel_rfl) rfl (hv2 ((evt za 22).trans (optVal (zc.dep 5 22 (by kernel_rfl)) rfl zβ)) ((evt za 23).trans (optVal (zc.dep 6 23 (by kernel_rfl)) rfl zβ))) (bhasI_any g _ Z N _ m (BkIs.below hBk (bstep hq1 zc.below))) (fun v w' h => ⟨v, rfl, h.2, optDef zβ h.1⟩)
  refine ⟨⟨_, .no (d := true) rfl (fun v w h => h), fun h w => optUndef h, fun zβ za zw zc => ?_⟩, ?_⟩
  ·exact wp_not rfl ((evt za 24).trans (optVal (zc.dep 7 24 (by kernel_rfl)) rfl zβ)) ⟨_, rfl, Below.refl _ _, optDef zβ rfl⟩
  refine ⟨⟨true, .none rfl, fun h w => optUndef h, fun zβ za zw zc => ?_⟩, ?_⟩
  ·exact wp_or rfl ((evt za 21).trans (optVal (zc.dep 4 21 (by kernel_rfl)) rfl rfl)) (fun hp => ((evt za 25).trans (optVal (zc.dep 8 25 (by kernel_rfl)) rfl (bMkN zβ hp)))) ⟨_, rfl, Below.refl _ _, optDef zβ rfl⟩
  refine ⟨⟨true, .none rfl, fun h w => optUndef h, fun zβ za zw zc => ?_⟩, ?_⟩
  ·exact wp_assign rfl ((evt za 26).trans (optVal (zc.dep 9 26 (by kernel_rfl)) rfl rfl)) ⟨_, rfl, Below.refl _ _, optDef zβ rfl⟩
  exact trivial
 ·intro za w3 zh hb4 zu
  have zh := zh.cons (d := 16) (v := .bool (((!(hasB N n)) || (!(hasB N m))))) (optVal (zu 10 16 (by kernel_rfl)) rfl rfl)
  clear zu
  refine WE.go zh ?_
  refine WE.next ?_
  refine WC.condT rfl ((by cases h1 : hasB N n <;> cases h2 : hasB N m <;> rw [h1, h2] at hh <;> simp_all)) ?_
  refine WC.seq (WC.region (WL.asg rfl rfl rfl rfl rfl (WL.asg rfl rfl rfl rfl rfl (WL.nil (WE.next (WC.ret (WE.blockRet (WE.thenRet (WE.ret2 rfl rfl rfl ?_)))))))))
  have hb5 : Below w.heap.size w w3 := (bstep hq1 hb4)
  exact ⟨_, rfl, rfl, hb5⟩
set_option maxRecDepth 100000 in
theorem bRep_yes (g : Nat) (sg : List Sy) (N : List En) (Y : Nat → Prop) (n m : Nat) (p : List Int) (pa : Option Addr) (pc : Nat) (w : World) (hNl : N.length ≤ 900000) (hn : n < N.length) (hm : m < N.length) (hpc : pc ≤ maxLen) (hp : PIs w p pa pc) (hK : BkS w g sg Y N) :
  Calls Try.prog 24 #[.pointer (some ⟨g, 0, none⟩), .int .i64 (n : Int), .slice pa p.length pc, .int .i64 (m : Int)] w (Ret fun v' w' => v' = .tuple #[.int .i64 (repV sg N n m p), .int .i64 (repE sg N n m p)] ∧ (∃ Y', BkS w' g sg Y' (repN sg N n m p) ∧ ∀ b, Y' b → Y b ∨ w.heap.size ≤ b) ∧ Chg Y w w') := by
 have hok := hK.ok
 have hzn := (hok.at_ hn).1
 have hzm := (hok.at_ hm).1
 have hX6 := repX_size hok hn hm p
 have hqz : (tmE N m).size ≤ 4294967296 := by omega
 have htz : (tmE N n).size ≤ 4294967296 := by omega
 obtain ⟨Z, sa, sc, hBk⟩ := hK.is
 refine Calls.walk (l := [.pointer (some ⟨g, 0, none⟩), .int .i64 (((n : Nat) : Int)), .slice pa p.length pc, .int .i64 (((m : Nat) : Int))]) Try.func24 rfl (by kernel_rfl) ?_
 refine WC.sub (K' := [(0, .pointer (some ⟨g, 0, none⟩)), (1, .int .i64 (((n : Nat) : Int))), (2, .slice pa p.length pc), (3, .int .i64 (((m : Nat) : Int)))]) ⟨rfl, rfl, rfl, rfl, trivial⟩ ?_
 refine WC.seq (WC.region (WL.asg rfl rfl rfl rfl rfl (WL.asg rfl rfl rfl rfl rfl (WL.nil (WE.next (WC.seq (WC.block (WC.seq (WC.region (WL.mv rfl rfl rfl rfl rfl ?_))))))))))
 refine WL.call rfl rfl rfl (fun za zh zC => wp_call (by kernel_rfl) rfl (hv1 (zh.ev rfl))) (bok_any g _ Z N _ (BkIs.below hBk (Below.refl _ _))) ?_
 rintro _ w2 ⟨rfl, hq1⟩
 refine WL.val (.bool false) rfl rfl rfl (fun za zC zh zk => wp_not rfl (zh.ev rfl) zk) ?_
 refine WL.asg rfl rfl rfl rfl rfl (WL.nil (WE.next ?_))
 refine WC.condF rfl rfl ?_
 refine WC.seq ?_
 refine WC.opt [(true, .val (.pointer (some ⟨g, 0, none⟩))), (true, .val (.int .i64 (((n : Nat) : Int)))), (true, .val (.bool true)), (true, .val (.bool false)), (true, .val (.bool false)), ((true && !false), .val (.pointer (some ⟨g, 0, none⟩))), ((true && !false), .val (.int .i64 (((m : Nat) : Int)))), ((true && !false), .val (.bool true)), ((true && !false), .val (.bool ((!true)))), (true, .val (.bool ((!true)))), (true, .val (.bool ((!true))))] [(0, .pointer (some ⟨g, 0, none⟩)), (1, .int .i64 (((n : Nat) : Int))), (2, .slice pa p.length pc), (3, .int .i64 (((m : Nat) : Int))), (8, .int .i64 0), (9, .int .i64 0), (12, .bool false)] ⟨rfl, rfl, rfl, rfl, rfl, rfl, rfl, trivial⟩ (by kernel_rfl) (by kernel_rfl) (by kernel_rfl) ?_ ?_
 ·refine ⟨⟨true, .none rfl, fun h w => optUndef h, fun zβ za zw zc => ?_⟩, ?_⟩
  ·exact wp_move rfl (zc.kn.ev rfl) ⟨_, rfl, Below.refl _ _, optDef zβ rfl⟩
  refine ⟨⟨true, .none rfl, fun h w => optUndef h, fun zβ za zw zc => ?_⟩, ?_⟩
  ·exact wp_move rfl (zc.kn.ev rfl) ⟨_, rfl, Below.refl _ _, optDef zβ rfl⟩
  refine ⟨⟨true, .none rfl, fun h w => optUndef h, fun zβ za zw zc => ?_⟩, ?_⟩
  ·exact wp_call (by kernel_rfl) rfl (hv2 ((evt za 17).trans (optVal (zc.dep 0 17 (by kernel_rfl)) rfl rfl)) ((evt za 18).trans (optVal (zc.dep 1 18 (by kernel_rfl)) rfl rfl))) (bhas_any g _ Z N _ _ (BkIs.below hBk (bstep hq1 zc.below)) hn) (fun v w' h => ⟨v, rfl, h.2, optDef zβ h.1⟩)
  refine ⟨⟨true, .none rfl, fun h w => optUndef h, fun zβ za zw zc => ?_⟩, ?_⟩
  ·exact wp_not rfl ((evt za 19).trans (optVal (zc.dep 2 19 (by kernel_rfl)) rfl rfl)) ⟨_, rfl, Below.refl _ _, optDef zβ rfl⟩
  refine ⟨⟨true, .none rfl, fun h w => optUndef h, fun zβ za zw zc => ?_⟩, ?_⟩
  ·exact wp_move rfl ((evt za 20).trans (optVal (zc.dep 3 20 (by kernel_rfl)) rfl rfl)) ⟨_, rfl, Below.refl _ _, optDef zβ rfl⟩
  refine ⟨⟨_, .no (d := true) rfl (fun v w h => h), fun h w => optUndef h, fun zβ za zw zc => ?_⟩, ?_⟩
  ·exact wp_move rfl (zc.kn.ev rfl) ⟨_, rfl, Below.refl _ _, optDef zβ rfl⟩
  refine ⟨⟨_, .no (d := true) rfl (fun v w h => h), fun h w => optUndef h, fun zβ za zw zc => ?_⟩, ?_⟩
  ·exact wp_move rfl (zc.kn.ev rfl) ⟨_, rfl, Below.refl _ _, optDef zβ rfl⟩
  refine ⟨⟨_, .no (d := true) rfl (fun v w h => h), fun h w => optUndef h, fun zβ za zw zc => ?_⟩, ?_⟩
  ·exact wp_call (by kernel_rfl) rfl (hv2 ((evt za 22).trans (optVal (zc.dep 5 22 (by kernel_rfl)) rfl rfl)) ((evt za 23).trans (optVal (zc.dep 6 23 (by kernel_rfl)) rfl rfl))) (bhas_any g _ Z N _ _ (BkIs.below hBk (bstep hq1 zc.below)) hm) (fun v w' h => ⟨v, rfl, h.2, optDef zβ h.1⟩)
  refine ⟨⟨_, .no (d := true) rfl (fun v w h => h), fun h w => optUndef h, fun zβ za zw zc => ?_⟩, ?_⟩
  ·exact wp_not rfl ((evt za 24).trans (optVal (zc.dep 7 24 (by kernel_rfl)) rfl rfl)) ⟨_, rfl, Below.refl _ _, optDef zβ rfl⟩
  refine ⟨⟨true, .none rfl, fun h w => optUndef h, fun zβ za zw zc => ?_⟩, ?_⟩
  ·exact wp_pickF rfl ((evt za 21).trans (optVal (zc.dep 4 21 (by kernel_rfl)) rfl rfl)) ((evt za 25).trans (optVal (zc.dep 8 25 (by kernel_rfl)) rfl rfl)) ⟨_, rfl, Below.refl _ _, optDef zβ rfl⟩
  refine ⟨⟨true, .none rfl, fun h w => optUndef h, fun zβ za zw zc => ?_⟩, ?_⟩
  ·exact wp_assign rfl ((evt za 26).trans (optVal (zc.dep 9 26 (by kernel_rfl)) rfl rfl)) ⟨_, rfl, Below.refl _ _, optDef zβ rfl⟩
  exact trivial
 ·intro za w3 zh hb4 zu
  have zh := zh.cons (d := 16) (v := .bool ((!true))) (optVal (zu 10 16 (by kernel_rfl)) rfl rfl)
  clear zu
  refine WE.go zh ?_
  refine WE.next ?_
  refine WC.condF rfl (rfl) ?_
  refine WC.skip (WE.blockNormal (WE.next (WC.seq (WC.region (WL.mv rfl rfl rfl rfl rfl (WL.mv rfl rfl rfl rfl rfl ?_))))))
  have hb5 : Below w.heap.size w w3 := (bstep hq1 hb4)
  have hl9 : w.heap.size ≤ w3.heap.size := (hb5).size
  refine WL.call rfl rfl rfl (fun za zh zC => wp_call (by kernel_rfl) rfl (hv2 (zh.ev rfl) (zh.ev rfl))) (bget_any g _ Z N (by omega) hok.fn n _ hn (by omega) (BkIs.below hBk hb5)) ?_
  rintro v6 w10 ⟨hn7, hb8⟩
  obtain ⟨_, a11, c12, rfl, _, _, _⟩ := hn7.form
  refine WL.mv rfl rfl rfl rfl rfl (WL.mv rfl rfl rfl rfl rfl (WL.mv rfl rfl rfl rfl rfl ?_))
  have hb13 : Below w.heap.size w w10 := (bstep hb5 hb8)
  have hl17 : w.heap.size ≤ w10.heap.size := (hb13).size
  refine WL.call rfl rfl rfl (fun za zh zC => wp_call (by kernel_rfl) rfl (hv2 (zh.ev rfl) (zh.ev rfl))) (bget_any g _ Z N (by omega) hok.fn m _ hm (by omega) (BkIs.below hBk hb13)) ?_
  rintro v14 w18 ⟨hn15, hb16⟩
  obtain ⟨_, a19, c20, rfl, _, _, _⟩ := hn15.form
  have ho21 := hn7.below hb16
  have hb22 : Below w.heap.size w w18 := (bstep hb13 hb16)
  have hl26 : w.heap.size ≤ w18.heap.size := (hb22).size
  refine WL.call rfl rfl rfl (fun za zh zC => wp_call (by kernel_rfl) rfl (hv3 (zh.ev rfl) (zh.ev rfl) (zh.ev rfl))) (tput_any (tmE N m) hqz p (tmE N n) _ _ _ pa pc htz hpc (IsT.below (Below.refl _ _) (InT.isT ho21)) (PIs.below hp hb22) (IsT.below (Below.refl _ _) (InT.isT hn15))) ?_
  rintro _ w27 ⟨⟨u23, rfl, hn24⟩, hb25⟩
  obtain ⟨_, a28, c29, rfl, _, _, _⟩ := hn24.form
  refine WL.mv rfl rfl rfl rfl rfl ?_
  refine WL.val (.agg #[.int .i64 (((repX N n m p)).f), .slice a28 (((repX N n m p)).args.length) c29]) rfl rfl rfl (fun za zC zh zk => ext2_0 rfl (zh.ev rfl) zk) ?_
  refine WL.val (.bool ((repO N n m p))) rfl rfl rfl (fun za zC zh zk => ext2_1 rfl (zh.ev rfl) zk) ?_
  refine WL.step (post := NewBlk w27 35 #[.int .i64 0, .slice none 0 0]) rfl rfl rfl (fun za zC zh zk => alloc_35 rfl (zk _ _ (newBlk _ _ _))) ?_
  rintro _ w30 ⟨g31, rfl, hg32, hB33, hb34, hz35⟩
  have hb36 : Below w.heap.size w w27 := (bstep hb22 hb25)
  have hl37 : w.heap.size ≤ g31 := by have z2 := (hb36).size; omega
  have hl38 : w18.heap.size ≤ g31 := by have z2 := (hb25).size; omega
  have hl39 : w27.heap.size ≤ g31 := by omega
  refine WL.step (post := fun _ w' => Upd g31 w30 w' ∧ Blk w' g31 35 #[.int .i64 (((repX N n m p)).f), .slice a28 (((repX N n m p)).args.length) c29]) rfl rfl rfl (fun za zC zh zk => st_35 rfl (zh.ev rfl) (zh.ev rfl) rfl rfl hB33 (by first | decide | simp) (fun v => zk v _ ⟨(Upd.at_ _ _ _ _).trans (Upd.at_ _ _ _ _), (hB33.set_ 0 _).set_ 1 _⟩)) ?_
  rintro v43 w40 ⟨hu41, hB42⟩
  have hb44 : Below w.heap.size w w30 := (bstep hb36 hb34)
  have hb45 : Below w18.heap.size w18 w30 := (bstep hb25 hb34)
  have hb46 := upd_below hb44 hu41 (by omega)
  have hb47 := upd_below hb45 hu41 (by omega)
  have hb48 := upd_below hb34 hu41 (by omega)
  refine WL.asg rfl rfl rfl rfl rfl ?_
  refine WL.nil (WE.sub (K' := [(0, .pointer (some ⟨g, 0, none⟩)), (1, .int .i64 (((n : Nat) : Int))), (2, .slice pa p.length pc), (3, .int .i64 (((m : Nat) : Int))), (8, .int .i64 0), (9, .int .i64 0), (10, .pointer (some ⟨g31, 0, none⟩)), (11, .bool ((repO N n m p))), (12, .bool false), (16, .bool ((!true)))]) ⟨rfl, rfl, rfl, rfl, rfl, rfl, rfl, rfl, rfl, rfl, trivial⟩ ?_)
  refine WE.next (WC.seq (WC.seq (WC.region (WL.mv rfl rfl rfl rfl rfl ?_))))
  refine WL.val (.bool ((!(repO N n m p)))) rfl rfl rfl (fun za zC zh zk => wp_not rfl (zh.ev rfl) zk) ?_
  refine WL.nil (WE.next ?_)
  refine WC.cond rfl (fun h49 => ?_) (fun h49 => ?_)
  ·have h49 : ¬ ((repO N n m p) = true) := by simpa using h49
   have hro : ¬ repO N n m p = true := by simpa using h49
   refine WC.seq (WC.region (WL.asg rfl rfl rfl rfl rfl (WL.asg rfl rfl rfl rfl rfl (WL.nil (WE.next (WC.ret (WE.thenRet (WE.ret2 rfl rfl rfl ?_))))))))
   obtain ⟨e1, e2, e3⟩ := repN_no (sg := sg) hro
   rw [e1, e2, e3]
   exact ⟨_, rfl, rfl, ⟨Y, BkS.below hK hb46, fun b q => .inl q⟩, .ofBelow hb46⟩
  ·have h49 : ¬ (¬ ((repO N n m p) = true)) := by simpa using h49
   have hro : repO N n m p = true := by simpa using h49
   refine WC.skip (WE.next (WC.seq (WC.region (WL.mv rfl rfl rfl rfl rfl ?_))))
   refine WL.val _ rfl rfl rfl (fun za zC zh zk => ld_35 rfl (zh.ev rfl) ((hB42.cell 0).trans rfl) ((hB42.cell 1).trans rfl) zk) ?_
   have ho50 := hn24.below hb48
   have hbW := (hb46).size
   have hb3 := hb47.size
   have hYl := hK.lt
   have hw3 := hb22.size
   refine WL.call rfl rfl rfl (fun za zh zC => wp_call (by kernel_rfl) rfl (hv2 (zh.ev rfl) (zh.ev rfl))) (bPut_any g sg (repX N n m p) N Y (fun b => w18.heap.size ≤ b ∧ b < w40.heap.size) _ _ (by omega) (by omega) (BkS.below hK hb46) (InT.mono (fun b q hlt => ⟨q, hlt⟩) ho50) (fun b q => ⟨fun k => by have z := hYl b k; omega, q.2⟩)) ?_
   rintro _ w55 ⟨rfl, ⟨Z51, hK52, hZ53⟩, hc54⟩
   have hC56 := Chg.trans (.ofBelow hb46) hc54
   refine WL.val (.int .i64 ((bputV sg N (repX N n m p)))) rfl rfl rfl (fun za zC zh zk => ext2_0 rfl (zh.ev rfl) zk) ?_
   refine WL.val (.int .i64 ((chkI sg (repX N n m p)))) rfl rfl rfl (fun za zC zh zk => ext2_1 rfl (zh.ev rfl) zk) ?_
   refine WL.asg rfl rfl rfl rfl rfl (WL.asg rfl rfl rfl rfl rfl (WL.nil (WE.next (WC.ret (WE.ret2 rfl rfl rfl ?_)))))
   obtain ⟨e1, e2, e3⟩ := repN_yes (sg := sg) hro
   rw [e1, e2, e3]
   exact ⟨_, rfl, rfl, ⟨Z51, hK52, fun b q => by rcases hZ53 b q with z | z; exact .inl z; (right; omega)⟩, hC56⟩
end Go.Proofs.Ytbohlpfndiiimaa
