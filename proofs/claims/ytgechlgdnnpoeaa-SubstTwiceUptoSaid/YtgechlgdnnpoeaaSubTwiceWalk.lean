/- The walk through the law SubstTwice. -/
import Derived.Test.YtgechlgdnnpoeaaSubEq
import Derived.Test.YtgechlgdnnpoeaaSubCompWalk
namespace Go.Proofs.Ytgechlgdnnpoeaa
open Go.RowKit Go

theorem NewSub.isSub {w0 w : World} {R : List Bd} {a : Option Addr} {c N M : Nat} (h : NewSub w0 w R a c) (hl : R.length ≤ N) (hN : N ≤ 4294967296) (hs : ∀ x ∈ R, x.t.size ≤ M) (hM : M ≤ 4294967296) : IsSub w R a c := ⟨h.isBs, h.2.1, h.2.2, by omega, fun b hb => by have := hs b hb; omega⟩
theorem isSub_nil (w : World) : IsSub w [] none 0 := ⟨InRow.nil, Nat.le_refl _, Nat.zero_le _, Nat.zero_le _, fun b hb => nomatch hb⟩
theorem compAny {F : FuncId} {w : World} {sA sB : List Bd} {vs : Array Value} (h : Calls Try.prog F vs w (Ret fun v' w' => CompIs w w' sA sB v' ∧ Below w.heap.size w w')) :
    Calls Try.prog F vs w (Ret fun v' w' => (∃ p n c e, v' = .tuple #[.slice p n c, .int .i64 e]) ∧ Below w.heap.size w w') := by
  refine h.mono ?_
  rintro e w' ⟨v, rfl, hc, hb⟩
  unfold CompIs at hc
  split at hc
  · obtain ⟨R, p, c, rfl, _⟩ := hc; exact ⟨_, rfl, ⟨_, _, _, _, rfl⟩, hb⟩
  · subst hc; exact ⟨_, rfl, ⟨_, _, _, _, rfl⟩, hb⟩
theorem check_ok (l : List Bd) (w : World) (a : Option Addr) (c : Nat) (h : IsSub w l a c) (ho : subOk (-1) l = true) : Calls Try.prog 19 #[.slice a l.length c] w (Ret fun v' w' => v' = .int .i64 0 ∧ Below w.heap.size w w') := by
  have z := check_any l w a c h.len h.cap h.rows
  rwa [show subCheck l = 0 by unfold subCheck; rw [ho]; rfl] at z
theorem subSame_yes (s1 s2 : List Bd) (w : World) (pa pb : Option Addr) (ca cb : Nat) (ha : IsSub w s1 pa ca) (hb : IsSub w s2 pb cb) (he : s1 = s2) : Calls Try.prog 20 #[.slice pa s1.length ca, .slice pb s2.length cb] w (Ret fun v' w' => v' = .bool true ∧ Below w.heap.size w w') := by
  have z := subSame_any s1 s2 w pa pb ca cb (Nat.le_trans ha.len ha.cap) ha.rows hb.rows
  rwa [show subSame s1 s2 = true by simp [subSame, he]] at z
theorem Small.sz {l : List Bd} {m : Nat} (h : Small l (m : Int)) : ∀ x ∈ l, x.t.size ≤ m := fun x hx => by have := h.2 x hx; omega

set_option maxRecDepth 100000 in
theorem twice_yes (sA sB sC : List Bd) (t : T) (w : World) (pa pb pc : Option Addr) (ca cb cc : Nat) (v : Value) (hA : IsSub w sA pa ca) (hB : IsSub w sB pb cb) (hC : IsSub w sC pc cc) (hla : sA.length ≤ 1048576) (hlb : sB.length ≤ 1048576) (hlc : sC.length ≤ 1048576) (hz : t.size ≤ 4294967296) (hv : IsT w t v) (okA : subOk (-1) sA = true) (okB : subOk (-1) sB = true) (okC : subOk (-1) sC = true) : Calls Try.prog 4 #[.slice pa sA.length ca, .slice pb sB.length cb, .slice pc sC.length cc, v] w (Ret fun v' w' => v' = .bool true ∧ Below w.heap.size w w') := by
  have hvt := hv
  obtain ⟨hf, a, c, rfl, hc, hmx, hl⟩ := hv.form
  refine Calls.walk (l := [.slice pa sA.length ca, .slice pb sB.length cb, .slice pc sC.length cc, .agg #[.int .i64 t.f, .slice a t.args.length c]]) Try.func4 rfl (by kernel_rfl) ?_
  refine WC.sub (K' := [(0, .slice pa sA.length ca), (1, .slice pb sB.length cb), (2, .slice pc sC.length cc), (3, .agg #[.int .i64 t.f, .slice a t.args.length c])]) ⟨rfl, rfl, rfl, rfl, trivial⟩ ?_
  refine WC.seq ?_
  refine WC.region ?_
  refine WL.step (post := NewBlk w 32 #[.int .i64 t.f, .slice a t.args.length c]) rfl rfl rfl (fun za zC zh zk => box_32 rfl (zh.ev rfl) (zk _ _ (newBlk _ _ _))) ?_
  rintro _ w1 ⟨g2, rfl, hg3, hB4, hb5, hz6⟩
  have hl7 : w.heap.size ≤ g2 := by omega
  refine WL.val (.bool false) rfl rfl rfl (fun za zC zh zk => wp_assign rfl (zh.ev rfl) zk) ?_
  refine WL.nil (WE.sub (K' := [(0, .slice pa sA.length ca), (1, .slice pb sB.length cb), (2, .slice pc sC.length cc), (3, .agg #[.int .i64 t.f, .slice a t.args.length c]), (7, .pointer (some ⟨g2, 0, none⟩)), (8, .bool false)]) ⟨rfl, rfl, rfl, rfl, rfl, rfl, trivial⟩ ?_)
  refine WE.next ?_
  refine WC.seq ?_
  refine WC.seq ?_
  refine WC.region ?_
  refine WL.val (.slice pa sA.length ca) rfl rfl rfl (fun za zC zh zk => wp_move rfl (zh.ev rfl) zk) ?_
  refine WL.call rfl rfl rfl (fun za zh zC => wp_call (by kernel_rfl) rfl (hv2 (zh.ev rfl) (zh.ev rfl))) (large_any sA 30 _ _ _ (hA.below hb5)) ?_
  rintro _ w11 ⟨⟨bl8, rfl, hS10⟩, hq9⟩
  refine WL.val (.bool bl8) rfl rfl rfl (fun za zC zh zk => wp_move rfl (zh.ev rfl) zk) ?_
  refine bool_split bl8 (fun h12 => ?_) (fun h12 => ?_)
  · refine WL.sub (K' := [(0, .slice pa sA.length ca), (1, .slice pb sB.length cb), (2, .slice pc sC.length cc), (3, .agg #[.int .i64 t.f, .slice a t.args.length c]), (7, .pointer (some ⟨g2, 0, none⟩)), (8, .bool false), (21, .slice pa sA.length ca), (22, .bool bl8), (23, .bool true)]) ⟨rfl, rfl, rfl, rfl, rfl, rfl, rfl, rfl, (by exact congrArg (fun z => some (Value.bool z)) h12), trivial⟩ ?_
    refine WL.skip (d := 23) rfl rfl rfl rfl rfl ?_
    refine WL.skip (d := 23) rfl rfl rfl rfl rfl ?_
    refine WL.val (.bool true) rfl rfl rfl (fun za zC zh zk => wp_pickT rfl (zh.ev rfl) (zh.ev rfl) zk) ?_
    refine WL.val (.bool true) rfl rfl rfl (fun za zC zh zk => wp_move rfl (zh.ev rfl) zk) ?_
    refine WL.skip (d := 27) rfl rfl rfl rfl rfl ?_
    refine WL.skip (d := 27) rfl rfl rfl rfl rfl ?_
    refine WL.val (.bool true) rfl rfl rfl (fun za zC zh zk => wp_pickT rfl (zh.ev rfl) (zh.ev rfl) zk) ?_
    refine WL.val (.bool true) rfl rfl rfl (fun za zC zh zk => wp_move rfl (zh.ev rfl) zk) ?_
    refine WL.skip (d := 31) rfl rfl rfl rfl rfl ?_
    refine WL.skip (d := 31) rfl rfl rfl rfl rfl ?_
    refine WL.val (.bool true) rfl rfl rfl (fun za zC zh zk => wp_pickT rfl (zh.ev rfl) (zh.ev rfl) zk) ?_
    refine WL.nil (WE.sub (K' := [(0, .slice pa sA.length ca), (1, .slice pb sB.length cb), (2, .slice pc sC.length cc), (3, .agg #[.int .i64 t.f, .slice a t.args.length c]), (7, .pointer (some ⟨g2, 0, none⟩)), (8, .bool false), (34, .bool true)]) ⟨rfl, rfl, rfl, rfl, rfl, rfl, rfl, trivial⟩ ?_)
    refine WE.next ?_
    refine WC.condT rfl rfl ?_
    refine WC.seq ?_
    refine WC.region ?_
    refine WL.call rfl rfl rfl (fun za zh zC => wp_call (by kernel_rfl) rfl (hv0)) (wakes_any _) ?_
    rintro _ w14 ⟨rfl, hq13⟩
    refine WL.val (.bool true) rfl rfl rfl (fun za zC zh zk => wp_assign rfl (zh.ev rfl) zk) ?_
    refine WL.nil (WE.sub (K' := [(0, .slice pa sA.length ca), (1, .slice pb sB.length cb), (2, .slice pc sC.length cc), (3, .agg #[.int .i64 t.f, .slice a t.args.length c]), (7, .pointer (some ⟨g2, 0, none⟩)), (8, .bool true), (34, .bool true)]) ⟨rfl, rfl, rfl, rfl, rfl, rfl, rfl, trivial⟩ ?_)
    refine WE.next ?_
    refine WC.ret ?_
    refine WE.thenRet ?_
    refine WE.ret1 rfl rfl ?_
    have hb15 : Below w.heap.size w w14 := (bstep (bstep hb5 hq9) hq13)
    exact ⟨_, rfl, rfl, hb15⟩
  · refine WL.sub (K' := [(0, .slice pa sA.length ca), (1, .slice pb sB.length cb), (2, .slice pc sC.length cc), (3, .agg #[.int .i64 t.f, .slice a t.args.length c]), (7, .pointer (some ⟨g2, 0, none⟩)), (8, .bool false), (21, .slice pa sA.length ca), (22, .bool bl8), (23, .bool false)]) ⟨rfl, rfl, rfl, rfl, rfl, rfl, rfl, rfl, (by exact congrArg (fun z => some (Value.bool z)) h12), trivial⟩ ?_
    refine WL.want (d := 23) rfl rfl rfl ?_
    refine WL.val (.slice pb sB.length cb) rfl rfl rfl (fun za zC zh zk => wp_move rfl (zh.ev rfl) zk) ?_
    refine WL.want (d := 23) rfl rfl rfl ?_
    have hb19 : Below w.heap.size w w11 := (bstep hb5 hq9)
    refine WL.call rfl rfl rfl (fun za zh zC => wp_call (by kernel_rfl) rfl (hv2 (zh.ev rfl) (zh.ev rfl))) (large_any sB 30 _ _ _ (hB.below hb19)) ?_
    rintro _ w20 ⟨⟨bl16, rfl, hS18⟩, hq17⟩
    refine WL.val (.bool bl16) rfl rfl rfl (fun za zC zh zk => wp_pickF rfl (zh.ev rfl) (zh.ev rfl) zk) ?_
    refine WL.val (.bool bl16) rfl rfl rfl (fun za zC zh zk => wp_move rfl (zh.ev rfl) zk) ?_
    refine bool_split bl16 (fun h21 => ?_) (fun h21 => ?_)
    · refine WL.sub (K' := [(0, .slice pa sA.length ca), (1, .slice pb sB.length cb), (2, .slice pc sC.length cc), (3, .agg #[.int .i64 t.f, .slice a t.args.length c]), (7, .pointer (some ⟨g2, 0, none⟩)), (8, .bool false), (21, .slice pa sA.length ca), (22, .bool bl8), (23, .bool false), (24, .slice pb sB.length cb), (25, .bool bl16), (26, .bool bl16), (27, .bool true)]) ⟨rfl, rfl, rfl, rfl, rfl, rfl, rfl, rfl, rfl, rfl, rfl, rfl, (by exact congrArg (fun z => some (Value.bool z)) h21), trivial⟩ ?_
      refine WL.skip (d := 27) rfl rfl rfl rfl rfl ?_
      refine WL.skip (d := 27) rfl rfl rfl rfl rfl ?_
      refine WL.val (.bool true) rfl rfl rfl (fun za zC zh zk => wp_pickT rfl (zh.ev rfl) (zh.ev rfl) zk) ?_
      refine WL.val (.bool true) rfl rfl rfl (fun za zC zh zk => wp_move rfl (zh.ev rfl) zk) ?_
      refine WL.skip (d := 31) rfl rfl rfl rfl rfl ?_
      refine WL.skip (d := 31) rfl rfl rfl rfl rfl ?_
      refine WL.val (.bool true) rfl rfl rfl (fun za zC zh zk => wp_pickT rfl (zh.ev rfl) (zh.ev rfl) zk) ?_
      refine WL.nil (WE.sub (K' := [(0, .slice pa sA.length ca), (1, .slice pb sB.length cb), (2, .slice pc sC.length cc), (3, .agg #[.int .i64 t.f, .slice a t.args.length c]), (7, .pointer (some ⟨g2, 0, none⟩)), (8, .bool false), (34, .bool true)]) ⟨rfl, rfl, rfl, rfl, rfl, rfl, rfl, trivial⟩ ?_)
      refine WE.next ?_
      refine WC.condT rfl rfl ?_
      refine WC.seq ?_
      refine WC.region ?_
      refine WL.call rfl rfl rfl (fun za zh zC => wp_call (by kernel_rfl) rfl (hv0)) (wakes_any _) ?_
      rintro _ w23 ⟨rfl, hq22⟩
      refine WL.val (.bool true) rfl rfl rfl (fun za zC zh zk => wp_assign rfl (zh.ev rfl) zk) ?_
      refine WL.nil (WE.sub (K' := [(0, .slice pa sA.length ca), (1, .slice pb sB.length cb), (2, .slice pc sC.length cc), (3, .agg #[.int .i64 t.f, .slice a t.args.length c]), (7, .pointer (some ⟨g2, 0, none⟩)), (8, .bool true), (34, .bool true)]) ⟨rfl, rfl, rfl, rfl, rfl, rfl, rfl, trivial⟩ ?_)
      refine WE.next ?_
      refine WC.ret ?_
      refine WE.thenRet ?_
      refine WE.ret1 rfl rfl ?_
      have hb24 : Below w.heap.size w w23 := (bstep (bstep hb19 hq17) hq22)
      exact ⟨_, rfl, rfl, hb24⟩
    · refine WL.sub (K' := [(0, .slice pa sA.length ca), (1, .slice pb sB.length cb), (2, .slice pc sC.length cc), (3, .agg #[.int .i64 t.f, .slice a t.args.length c]), (7, .pointer (some ⟨g2, 0, none⟩)), (8, .bool false), (21, .slice pa sA.length ca), (22, .bool bl8), (23, .bool false), (24, .slice pb sB.length cb), (25, .bool bl16), (26, .bool bl16), (27, .bool false)]) ⟨rfl, rfl, rfl, rfl, rfl, rfl, rfl, rfl, rfl, rfl, rfl, rfl, (by exact congrArg (fun z => some (Value.bool z)) h21), trivial⟩ ?_
      refine WL.want (d := 27) rfl rfl rfl ?_
      refine WL.val (.slice pc sC.length cc) rfl rfl rfl (fun za zC zh zk => wp_move rfl (zh.ev rfl) zk) ?_
      refine WL.want (d := 27) rfl rfl rfl ?_
      have hb28 : Below w.heap.size w w20 := (bstep hb19 hq17)
      refine WL.call rfl rfl rfl (fun za zh zC => wp_call (by kernel_rfl) rfl (hv2 (zh.ev rfl) (zh.ev rfl))) (large_any sC 30 _ _ _ (hC.below hb28)) ?_
      rintro _ w29 ⟨⟨bl25, rfl, hS27⟩, hq26⟩
      refine WL.val (.bool bl25) rfl rfl rfl (fun za zC zh zk => wp_pickF rfl (zh.ev rfl) (zh.ev rfl) zk) ?_
      refine WL.val (.bool bl25) rfl rfl rfl (fun za zC zh zk => wp_move rfl (zh.ev rfl) zk) ?_
      refine bool_split bl25 (fun h30 => ?_) (fun h30 => ?_)
      · refine WL.sub (K' := [(0, .slice pa sA.length ca), (1, .slice pb sB.length cb), (2, .slice pc sC.length cc), (3, .agg #[.int .i64 t.f, .slice a t.args.length c]), (7, .pointer (some ⟨g2, 0, none⟩)), (8, .bool false), (21, .slice pa sA.length ca), (22, .bool bl8), (23, .bool false), (24, .slice pb sB.length cb), (25, .bool bl16), (26, .bool bl16), (27, .bool false), (28, .slice pc sC.length cc), (29, .bool bl25), (30, .bool bl25), (31, .bool true)]) ⟨rfl, rfl, rfl, rfl, rfl, rfl, rfl, rfl, rfl, rfl, rfl, rfl, rfl, rfl, rfl, rfl, (by exact congrArg (fun z => some (Value.bool z)) h30), trivial⟩ ?_
        refine WL.skip (d := 31) rfl rfl rfl rfl rfl ?_
        refine WL.skip (d := 31) rfl rfl rfl rfl rfl ?_
        refine WL.val (.bool true) rfl rfl rfl (fun za zC zh zk => wp_pickT rfl (zh.ev rfl) (zh.ev rfl) zk) ?_
        refine WL.nil (WE.sub (K' := [(0, .slice pa sA.length ca), (1, .slice pb sB.length cb), (2, .slice pc sC.length cc), (3, .agg #[.int .i64 t.f, .slice a t.args.length c]), (7, .pointer (some ⟨g2, 0, none⟩)), (8, .bool false), (34, .bool true)]) ⟨rfl, rfl, rfl, rfl, rfl, rfl, rfl, trivial⟩ ?_)
        refine WE.next ?_
        refine WC.condT rfl rfl ?_
        refine WC.seq ?_
        refine WC.region ?_
        refine WL.call rfl rfl rfl (fun za zh zC => wp_call (by kernel_rfl) rfl (hv0)) (wakes_any _) ?_
        rintro _ w32 ⟨rfl, hq31⟩
        refine WL.val (.bool true) rfl rfl rfl (fun za zC zh zk => wp_assign rfl (zh.ev rfl) zk) ?_
        refine WL.nil (WE.sub (K' := [(0, .slice pa sA.length ca), (1, .slice pb sB.length cb), (2, .slice pc sC.length cc), (3, .agg #[.int .i64 t.f, .slice a t.args.length c]), (7, .pointer (some ⟨g2, 0, none⟩)), (8, .bool true), (34, .bool true)]) ⟨rfl, rfl, rfl, rfl, rfl, rfl, rfl, trivial⟩ ?_)
        refine WE.next ?_
        refine WC.ret ?_
        refine WE.thenRet ?_
        refine WE.ret1 rfl rfl ?_
        have hb33 : Below w.heap.size w w32 := (bstep (bstep hb28 hq26) hq31)
        exact ⟨_, rfl, rfl, hb33⟩
      · refine WL.sub (K' := [(0, .slice pa sA.length ca), (1, .slice pb sB.length cb), (2, .slice pc sC.length cc), (3, .agg #[.int .i64 t.f, .slice a t.args.length c]), (7, .pointer (some ⟨g2, 0, none⟩)), (8, .bool false), (21, .slice pa sA.length ca), (22, .bool bl8), (23, .bool false), (24, .slice pb sB.length cb), (25, .bool bl16), (26, .bool bl16), (27, .bool false), (28, .slice pc sC.length cc), (29, .bool bl25), (30, .bool bl25), (31, .bool false)]) ⟨rfl, rfl, rfl, rfl, rfl, rfl, rfl, rfl, rfl, rfl, rfl, rfl, rfl, rfl, rfl, rfl, (by exact congrArg (fun z => some (Value.bool z)) h30), trivial⟩ ?_
        refine WL.want (d := 31) rfl rfl rfl ?_
        have hb35 : Below w1.heap.size w1 w29 := (bstep (bstep hq9 hq17) hq26)
        have hB34 := hB4.below hb35
        refine WL.val (.agg #[.int .i64 t.f, .slice a t.args.length c]) rfl rfl rfl (fun za zC zh zk => ld_32 rfl (zh.ev rfl) ((hB34.cell 0).trans rfl) ((hB34.cell 1).trans rfl) zk) ?_
        refine WL.want (d := 31) rfl rfl rfl ?_
        have hb36 : Below w.heap.size w w29 := (bstep hb5 hb35)
        refine WL.call rfl rfl rfl (fun za zh zC => wp_call (by kernel_rfl) rfl (hv2 (zh.ev rfl) (zh.ev rfl))) (great_any t 30 _ _ hz (IsT.below hb36 hvt)) ?_
        rintro _ w38 ⟨rfl, hq37⟩
        refine WL.val (.bool ((decide ((30 : Int) < (t.size : Int))))) rfl rfl rfl (fun za zC zh zk => wp_pickF rfl (zh.ev rfl) (zh.ev rfl) zk) ?_
        refine WL.nil (WE.sub (K' := [(0, .slice pa sA.length ca), (1, .slice pb sB.length cb), (2, .slice pc sC.length cc), (3, .agg #[.int .i64 t.f, .slice a t.args.length c]), (7, .pointer (some ⟨g2, 0, none⟩)), (8, .bool false), (34, .bool ((decide ((30 : Int) < (t.size : Int)))))]) ⟨rfl, rfl, rfl, rfl, rfl, rfl, rfl, trivial⟩ ?_)
        refine WE.next ?_
        refine WC.cond rfl (fun h39 => ?_) (fun h39 => ?_)
        · have h39 : (30 : Int) < (t.size : Int) := by simpa using h39
          refine WC.seq ?_
          refine WC.region ?_
          refine WL.call rfl rfl rfl (fun za zh zC => wp_call (by kernel_rfl) rfl (hv0)) (wakes_any _) ?_
          rintro _ w41 ⟨rfl, hq40⟩
          refine WL.val (.bool true) rfl rfl rfl (fun za zC zh zk => wp_assign rfl (zh.ev rfl) zk) ?_
          refine WL.nil (WE.sub (K' := [(0, .slice pa sA.length ca), (1, .slice pb sB.length cb), (2, .slice pc sC.length cc), (3, .agg #[.int .i64 t.f, .slice a t.args.length c]), (7, .pointer (some ⟨g2, 0, none⟩)), (8, .bool true), (34, .bool ((decide ((30 : Int) < (t.size : Int)))))]) ⟨rfl, rfl, rfl, rfl, rfl, rfl, rfl, trivial⟩ ?_)
          refine WE.next ?_
          refine WC.ret ?_
          refine WE.thenRet ?_
          refine WE.ret1 rfl rfl ?_
          have hb42 : Below w.heap.size w w41 := (bstep (bstep hb36 hq37) hq40)
          exact ⟨_, rfl, rfl, hb42⟩
        · have h39 : ¬ ((30 : Int) < (t.size : Int)) := by simpa using h39
          refine WC.skip ?_
          refine WE.next ?_
          refine WC.seq ?_
          refine WC.region ?_
          refine WL.val (.slice pa sA.length ca) rfl rfl rfl (fun za zC zh zk => wp_move rfl (zh.ev rfl) zk) ?_
          refine WL.val (.slice pb sB.length cb) rfl rfl rfl (fun za zC zh zk => wp_move rfl (zh.ev rfl) zk) ?_
          have hSA := hS10 h12
          have hzA := Small.sz (m := 30) hSA
          have hSB := hS18 h21
          have hzB := Small.sz (m := 30) hSB
          have hSC := hS27 h30
          have hzC := Small.sz (m := 30) hSC
          have ht30 : t.size ≤ 30 := by have z := h39; omega
          have hnA := hSA.1
          have hnB := hSB.1
          have hnC := hSC.1
          have hb44 : Below w.heap.size w w38 := (bstep hb36 hq37)
          refine WL.call rfl rfl rfl (fun za zh zC => wp_call (by kernel_rfl) rfl (hv2 (zh.ev rfl) (zh.ev rfl))) (compYes (compose_any sA sB _ _ _ _ _ (hA.below hb44) (hB.below hb44) hla hlb) ⟨okA, okB⟩) ?_
          rintro _ w45 ⟨⟨R1, p1, c1, rfl, hR1, hN1⟩, hq43⟩
          have hzR1 := comp_size hR1 (M := 30) (N := 30) (by decide) hzB hzA (by decide)
          have hnR1 : R1.length ≤ (60 + 60) := by have z := hzR1.1; (try simp only [List.length_nil] at z); omega
          have hIR1 := hN1.isSub hnR1 (by decide) hzR1.2 (by decide)
          have okR1 := comp_ok okA okB hR1
          refine WL.val (.tuple #[.slice p1 R1.length c1, .int .i64 0]) rfl rfl rfl (fun za zC zh zk => wp_move rfl (zh.ev rfl) zk) ?_
          refine WL.val (.slice p1 R1.length c1) rfl rfl rfl (fun za zC zh zk => ext2_0 rfl (zh.ev rfl) zk) ?_
          refine WL.val (.int .i64 0) rfl rfl rfl (fun za zC zh zk => ext2_1 rfl (zh.ev rfl) zk) ?_
          refine WL.val (.slice p1 R1.length c1) rfl rfl rfl (fun za zC zh zk => wp_assign rfl (zh.ev rfl) zk) ?_
          refine WL.val (.int .i64 0) rfl rfl rfl (fun za zC zh zk => wp_assign rfl (zh.ev rfl) zk) ?_
          refine WL.nil (WE.sub (K' := [(0, .slice pa sA.length ca), (1, .slice pb sB.length cb), (2, .slice pc sC.length cc), (3, .agg #[.int .i64 t.f, .slice a t.args.length c]), (7, .pointer (some ⟨g2, 0, none⟩)), (8, .bool false), (9, .slice p1 R1.length c1), (10, .int .i64 0), (34, .bool ((decide ((30 : Int) < (t.size : Int)))))]) ⟨rfl, rfl, rfl, rfl, rfl, rfl, rfl, rfl, rfl, trivial⟩ ?_)
          refine WE.next ?_
          refine WC.seq ?_
          refine WC.region ?_
          refine WL.val (.slice pb sB.length cb) rfl rfl rfl (fun za zC zh zk => wp_move rfl (zh.ev rfl) zk) ?_
          refine WL.val (.slice pc sC.length cc) rfl rfl rfl (fun za zC zh zk => wp_move rfl (zh.ev rfl) zk) ?_
          have hb47 : Below w.heap.size w w45 := (bstep hb44 hq43)
          refine WL.call rfl rfl rfl (fun za zh zC => wp_call (by kernel_rfl) rfl (hv2 (zh.ev rfl) (zh.ev rfl))) (compYes (compose_any sB sC _ _ _ _ _ (hB.below hb47) (hC.below hb47) hlb hlc) ⟨okB, okC⟩) ?_
          rintro _ w48 ⟨⟨R2, p2, c2, rfl, hR2, hN2⟩, hq46⟩
          have hzR2 := comp_size hR2 (M := 30) (N := 30) (by decide) hzC hzB (by decide)
          have hnR2 : R2.length ≤ (60 + 60) := by have z := hzR2.1; (try simp only [List.length_nil] at z); omega
          have hIR2 := hN2.isSub hnR2 (by decide) hzR2.2 (by decide)
          have okR2 := comp_ok okB okC hR2
          refine WL.val (.tuple #[.slice p2 R2.length c2, .int .i64 0]) rfl rfl rfl (fun za zC zh zk => wp_move rfl (zh.ev rfl) zk) ?_
          refine WL.val (.slice p2 R2.length c2) rfl rfl rfl (fun za zC zh zk => ext2_0 rfl (zh.ev rfl) zk) ?_
          refine WL.val (.int .i64 0) rfl rfl rfl (fun za zC zh zk => ext2_1 rfl (zh.ev rfl) zk) ?_
          refine WL.val (.slice p2 R2.length c2) rfl rfl rfl (fun za zC zh zk => wp_assign rfl (zh.ev rfl) zk) ?_
          refine WL.val (.int .i64 0) rfl rfl rfl (fun za zC zh zk => wp_assign rfl (zh.ev rfl) zk) ?_
          refine WL.nil (WE.sub (K' := [(0, .slice pa sA.length ca), (1, .slice pb sB.length cb), (2, .slice pc sC.length cc), (3, .agg #[.int .i64 t.f, .slice a t.args.length c]), (7, .pointer (some ⟨g2, 0, none⟩)), (8, .bool false), (9, .slice p1 R1.length c1), (10, .int .i64 0), (11, .slice p2 R2.length c2), (12, .int .i64 0), (34, .bool ((decide ((30 : Int) < (t.size : Int)))))]) ⟨rfl, rfl, rfl, rfl, rfl, rfl, rfl, rfl, rfl, rfl, rfl, trivial⟩ ?_)
          refine WE.next ?_
          refine WC.seq ?_
          refine WC.seq ?_
          refine WC.region ?_
          refine WL.val (.int .i64 0) rfl rfl rfl (fun za zC zh zk => wp_move rfl (zh.ev rfl) zk) ?_
          refine WL.val (.bool false) rfl rfl rfl (fun za zC zh zk => neq_26 rfl (zh.ev rfl) (zh.ev rfl) zk) ?_
          refine WL.val (.bool false) rfl rfl rfl (fun za zC zh zk => wp_move rfl (zh.ev rfl) zk) ?_
          refine WL.want (d := 50) rfl rfl rfl ?_
          refine WL.val (.int .i64 0) rfl rfl rfl (fun za zC zh zk => wp_move rfl (zh.ev rfl) zk) ?_
          refine WL.want (d := 50) rfl rfl rfl ?_
          refine WL.val (.bool false) rfl rfl rfl (fun za zC zh zk => neq_26 rfl (zh.ev rfl) (zh.ev rfl) zk) ?_
          refine WL.val (.bool false) rfl rfl rfl (fun za zC zh zk => wp_pickF rfl (zh.ev rfl) (zh.ev rfl) zk) ?_
          refine WL.nil (WE.sub (K' := [(0, .slice pa sA.length ca), (1, .slice pb sB.length cb), (2, .slice pc sC.length cc), (3, .agg #[.int .i64 t.f, .slice a t.args.length c]), (7, .pointer (some ⟨g2, 0, none⟩)), (8, .bool false), (9, .slice p1 R1.length c1), (10, .int .i64 0), (11, .slice p2 R2.length c2), (12, .int .i64 0), (34, .bool ((decide ((30 : Int) < (t.size : Int))))), (53, .bool false)]) ⟨rfl, rfl, rfl, rfl, rfl, rfl, rfl, rfl, rfl, rfl, rfl, rfl, trivial⟩ ?_)
          refine WE.next ?_
          refine WC.condF rfl rfl ?_
          refine WC.skip ?_
          refine WE.next ?_
          refine WC.seq ?_
          refine WC.seq ?_
          have hb50 : Below w29.heap.size w29 w48 := (bstep (bstep hq37 hq43) hq46)
          have hB49 := hB34.below hb50
          have hb51 : Below w.heap.size w w48 := (bstep hb36 hb50)
          refine WC.opt [(true, .val (.agg #[.int .i64 t.f, .slice a t.args.length c])), (true, .val (.bool t.plain)), (true, .val (.bool t.plain)), ((true && t.plain), .val (.slice pa sA.length ca)), ((true && t.plain), .val (.bool ((plainSub sA)))), (true, .val (.bool ((t.plain && (plainSub sA))))), (true, .val (.bool ((t.plain && (plainSub sA))))), ((true && (t.plain && (plainSub sA))), .val (.slice pb sB.length cb)), ((true && (t.plain && (plainSub sA))), .val (.bool ((plainSub sB)))), (true, .val (.bool (((t.plain && (plainSub sA)) && (plainSub sB))))), (true, .val (.bool (((t.plain && (plainSub sA)) && (plainSub sB))))), ((true && ((t.plain && (plainSub sA)) && (plainSub sB))), .val (.slice p1 R1.length c1)), ((true && ((t.plain && (plainSub sA)) && (plainSub sB))), .val (.agg #[.int .i64 t.f, .slice a t.args.length c])), ((true && ((t.plain && (plainSub sA)) && (plainSub sB))), .mem (fun v w' => IsT w' (t.app R1) v) (fun v w w' hb h => IsT.below hb h)), ((true && ((t.plain && (plainSub sA)) && (plainSub sB))), .val (.slice pb sB.length cb)), ((true && ((t.plain && (plainSub sA)) && (plainSub sB))), .val (.slice pa sA.length ca)), ((true && ((t.plain && (plainSub sA)) && (plainSub sB))), .val (.agg #[.int .i64 t.f, .slice a t.args.length c])), ((true && ((t.plain && (plainSub sA)) && (plainSub sB))), .mem (fun v w' => IsT w' (t.app sA) v) (fun v w w' hb h => IsT.below hb h)), ((true && ((t.plain && (plainSub sA)) && (plainSub sB))), .mem (fun v w' => IsT w' ((t.app sA).app sB) v) (fun v w w' hb h => IsT.below hb h)), ((true && ((t.plain && (plainSub sA)) && (plainSub sB))), .val (.bool ((T.same (t.app R1) ((t.app sA).app sB))))), ((true && ((t.plain && (plainSub sA)) && (plainSub sB))), .val (.bool ((!(T.same (t.app R1) ((t.app sA).app sB)))))), (true, .val (.bool ((((t.plain && (plainSub sA)) && (plainSub sB)) && (!(T.same (t.app R1) ((t.app sA).app sB)))))))] [(0, .slice pa sA.length ca), (1, .slice pb sB.length cb), (2, .slice pc sC.length cc), (3, .agg #[.int .i64 t.f, .slice a t.args.length c]), (7, .pointer (some ⟨g2, 0, none⟩)), (8, .bool false), (9, .slice p1 R1.length c1), (10, .int .i64 0), (11, .slice p2 R2.length c2), (12, .int .i64 0), (34, .bool ((decide ((30 : Int) < (t.size : Int))))), (53, .bool false)] ⟨rfl, rfl, rfl, rfl, rfl, rfl, rfl, rfl, rfl, rfl, rfl, rfl, trivial⟩ (by kernel_rfl) (by kernel_rfl) (by kernel_rfl) ?_ ?_
          · refine ⟨⟨true, .none rfl, fun h w => optUndef h, fun zβ za zw zc => ?_⟩, ?_⟩
            · exact ld_32 rfl (zc.kn.ev rfl) (bkeeps zc.below _ _ ((hB49.cell 0).trans rfl)) (bkeeps zc.below _ _ ((hB49.cell 1).trans rfl)) ⟨_, rfl, Below.refl _ _, optDef zβ rfl⟩
            refine ⟨⟨true, .none rfl, fun h w => optUndef h, fun zβ za zw zc => ?_⟩, ?_⟩
            · exact wp_call (by kernel_rfl) rfl (hv1 ((show za.eval (.tmp 55) = za.tmps.getD 55 undef from rfl).trans (optVal (zc.dep 0 55 (by kernel_rfl)) rfl rfl))) (plain_any t _ _ hz (IsT.below (bstep hb51 zc.below) hvt)) (fun v w' h => ⟨v, rfl, h.2, optDef zβ h.1⟩)
            refine ⟨⟨true, .none rfl, fun h w => optUndef h, fun zβ za zw zc => ?_⟩, ?_⟩
            · exact wp_move rfl ((show za.eval (.tmp 56) = za.tmps.getD 56 undef from rfl).trans (optVal (zc.dep 1 56 (by kernel_rfl)) rfl rfl)) ⟨_, rfl, Below.refl _ _, optDef zβ rfl⟩
            refine ⟨⟨(true && t.plain), .yes (c := t.plain) (d := true) rfl (fun v w h => h), fun h w => optUndef h, fun zβ za zw zc => ?_⟩, ?_⟩
            · exact wp_move rfl (zc.kn.ev rfl) ⟨_, rfl, Below.refl _ _, optDef zβ rfl⟩
            refine ⟨⟨(true && t.plain), .yes (c := t.plain) (d := true) rfl (fun v w h => h), fun h w => optUndef h, fun zβ za zw zc => ?_⟩, ?_⟩
            · exact wp_call (by kernel_rfl) rfl (hv1 ((show za.eval (.tmp 58) = za.tmps.getD 58 undef from rfl).trans (optVal (zc.dep 3 58 (by kernel_rfl)) rfl zβ))) (plainIn_any sA _ _ _ (hA.below (bstep hb51 zc.below))) (fun v w' h => ⟨v, rfl, h.2, optDef zβ h.1⟩)
            refine ⟨⟨true, .none rfl, fun h w => optUndef h, fun zβ za zw zc => ?_⟩, ?_⟩
            · exact wp_and rfl ((show za.eval (.tmp 57) = za.tmps.getD 57 undef from rfl).trans (optVal (zc.dep 2 57 (by kernel_rfl)) rfl rfl)) (fun hp => ((show za.eval (.tmp 59) = za.tmps.getD 59 undef from rfl).trans (optVal (zc.dep 4 59 (by kernel_rfl)) rfl (bMk zβ hp)))) ⟨_, rfl, Below.refl _ _, optDef zβ rfl⟩
            refine ⟨⟨true, .none rfl, fun h w => optUndef h, fun zβ za zw zc => ?_⟩, ?_⟩
            · exact wp_move rfl ((show za.eval (.tmp 60) = za.tmps.getD 60 undef from rfl).trans (optVal (zc.dep 5 60 (by kernel_rfl)) rfl rfl)) ⟨_, rfl, Below.refl _ _, optDef zβ rfl⟩
            refine ⟨⟨(true && (t.plain && (plainSub sA))), .yes (c := (t.plain && (plainSub sA))) (d := true) rfl (fun v w h => h), fun h w => optUndef h, fun zβ za zw zc => ?_⟩, ?_⟩
            · exact wp_move rfl (zc.kn.ev rfl) ⟨_, rfl, Below.refl _ _, optDef zβ rfl⟩
            refine ⟨⟨(true && (t.plain && (plainSub sA))), .yes (c := (t.plain && (plainSub sA))) (d := true) rfl (fun v w h => h), fun h w => optUndef h, fun zβ za zw zc => ?_⟩, ?_⟩
            · exact wp_call (by kernel_rfl) rfl (hv1 ((show za.eval (.tmp 62) = za.tmps.getD 62 undef from rfl).trans (optVal (zc.dep 7 62 (by kernel_rfl)) rfl zβ))) (plainIn_any sB _ _ _ (hB.below (bstep hb51 zc.below))) (fun v w' h => ⟨v, rfl, h.2, optDef zβ h.1⟩)
            refine ⟨⟨true, .none rfl, fun h w => optUndef h, fun zβ za zw zc => ?_⟩, ?_⟩
            · exact wp_and rfl ((show za.eval (.tmp 61) = za.tmps.getD 61 undef from rfl).trans (optVal (zc.dep 6 61 (by kernel_rfl)) rfl rfl)) (fun hp => ((show za.eval (.tmp 63) = za.tmps.getD 63 undef from rfl).trans (optVal (zc.dep 8 63 (by kernel_rfl)) rfl (bMk zβ hp)))) ⟨_, rfl, Below.refl _ _, optDef zβ rfl⟩
            refine ⟨⟨true, .none rfl, fun h w => optUndef h, fun zβ za zw zc => ?_⟩, ?_⟩
            · exact wp_move rfl ((show za.eval (.tmp 64) = za.tmps.getD 64 undef from rfl).trans (optVal (zc.dep 9 64 (by kernel_rfl)) rfl rfl)) ⟨_, rfl, Below.refl _ _, optDef zβ rfl⟩
            refine ⟨⟨(true && ((t.plain && (plainSub sA)) && (plainSub sB))), .yes (c := ((t.plain && (plainSub sA)) && (plainSub sB))) (d := true) rfl (fun v w h => h), fun h w => optUndef h, fun zβ za zw zc => ?_⟩, ?_⟩
            · exact wp_move rfl (zc.kn.ev rfl) ⟨_, rfl, Below.refl _ _, optDef zβ rfl⟩
            refine ⟨⟨(true && ((t.plain && (plainSub sA)) && (plainSub sB))), .yes (c := ((t.plain && (plainSub sA)) && (plainSub sB))) (d := true) rfl (fun v w h => h), fun h w => optUndef h, fun zβ za zw zc => ?_⟩, ?_⟩
            · exact ld_32 rfl (zc.kn.ev rfl) (bkeeps zc.below _ _ ((hB49.cell 0).trans rfl)) (bkeeps zc.below _ _ ((hB49.cell 1).trans rfl)) ⟨_, rfl, Below.refl _ _, optDef zβ rfl⟩
            refine ⟨⟨(true && ((t.plain && (plainSub sA)) && (plainSub sB))), .yes (c := ((t.plain && (plainSub sA)) && (plainSub sB))) (d := true) rfl (fun v w h => h), fun h w => optUndef h, fun zβ za zw zc => ?_⟩, ?_⟩
            · exact wp_call (by kernel_rfl) rfl (hv2 ((show za.eval (.tmp 66) = za.tmps.getD 66 undef from rfl).trans (optVal (zc.dep 11 66 (by kernel_rfl)) rfl zβ)) ((show za.eval (.tmp 67) = za.tmps.getD 67 undef from rfl).trans (optVal (zc.dep 12 67 (by kernel_rfl)) rfl zβ))) (apply_any R1 t _ _ _ _ hz (IsT.below (bstep hb51 zc.below) hvt) (hIR1.below (bstep hq46 zc.below))) (fun v w' h => ⟨v, rfl, h.2, optDef zβ (InT.isT h.1)⟩)
            refine ⟨⟨(true && ((t.plain && (plainSub sA)) && (plainSub sB))), .yes (c := ((t.plain && (plainSub sA)) && (plainSub sB))) (d := true) rfl (fun v w h => h), fun h w => optUndef h, fun zβ za zw zc => ?_⟩, ?_⟩
            · exact wp_move rfl (zc.kn.ev rfl) ⟨_, rfl, Below.refl _ _, optDef zβ rfl⟩
            refine ⟨⟨(true && ((t.plain && (plainSub sA)) && (plainSub sB))), .yes (c := ((t.plain && (plainSub sA)) && (plainSub sB))) (d := true) rfl (fun v w h => h), fun h w => optUndef h, fun zβ za zw zc => ?_⟩, ?_⟩
            · exact wp_move rfl (zc.kn.ev rfl) ⟨_, rfl, Below.refl _ _, optDef zβ rfl⟩
            refine ⟨⟨(true && ((t.plain && (plainSub sA)) && (plainSub sB))), .yes (c := ((t.plain && (plainSub sA)) && (plainSub sB))) (d := true) rfl (fun v w h => h), fun h w => optUndef h, fun zβ za zw zc => ?_⟩, ?_⟩
            · exact ld_32 rfl (zc.kn.ev rfl) (bkeeps zc.below _ _ ((hB49.cell 0).trans rfl)) (bkeeps zc.below _ _ ((hB49.cell 1).trans rfl)) ⟨_, rfl, Below.refl _ _, optDef zβ rfl⟩
            refine ⟨⟨(true && ((t.plain && (plainSub sA)) && (plainSub sB))), .yes (c := ((t.plain && (plainSub sA)) && (plainSub sB))) (d := true) rfl (fun v w h => h), fun h w => optUndef h, fun zβ za zw zc => ?_⟩, ?_⟩
            · exact wp_call (by kernel_rfl) rfl (hv2 ((show za.eval (.tmp 70) = za.tmps.getD 70 undef from rfl).trans (optVal (zc.dep 15 70 (by kernel_rfl)) rfl zβ)) ((show za.eval (.tmp 71) = za.tmps.getD 71 undef from rfl).trans (optVal (zc.dep 16 71 (by kernel_rfl)) rfl zβ))) (apply_any sA t _ _ _ _ hz (IsT.below (bstep hb51 zc.below) hvt) (hA.below (bstep hb51 zc.below))) (fun v w' h => ⟨v, rfl, h.2, optDef zβ (InT.isT h.1)⟩)
            refine ⟨⟨(true && ((t.plain && (plainSub sA)) && (plainSub sB))), .yes (c := ((t.plain && (plainSub sA)) && (plainSub sB))) (d := true) rfl (fun v w h => h), fun h w => optUndef h, fun zβ za zw zc => ?_⟩, ?_⟩
            · exact wp_call (by kernel_rfl) rfl (hv2 ((show za.eval (.tmp 69) = za.tmps.getD 69 undef from rfl).trans (optVal (zc.dep 14 69 (by kernel_rfl)) rfl zβ)) (show za.eval (.tmp 72) = za.tmps.getD 72 undef from rfl)) (apply_any sB (t.app sA) _ _ _ _ (by have z := size_app (M := 30) (by decide) hzA t; omega) (optMem (zc.dep 17 72 (by kernel_rfl)) rfl zβ) (hB.below (bstep hb51 zc.below))) (fun v w' h => ⟨v, rfl, h.2, optDef zβ (InT.isT h.1)⟩)
            refine ⟨⟨(true && ((t.plain && (plainSub sA)) && (plainSub sB))), .yes (c := ((t.plain && (plainSub sA)) && (plainSub sB))) (d := true) rfl (fun v w h => h), fun h w => optUndef h, fun zβ za zw zc => ?_⟩, ?_⟩
            · exact wp_call (by kernel_rfl) rfl (hv2 (show za.eval (.tmp 68) = za.tmps.getD 68 undef from rfl) (show za.eval (.tmp 73) = za.tmps.getD 73 undef from rfl)) (ret_of (rsame_any (t.app R1) ((t.app sA).app sB) _ _ _ (optMem (zc.dep 13 68 (by kernel_rfl)) rfl zβ) (optMem (zc.dep 18 73 (by kernel_rfl)) rfl zβ))) (fun v w' h => ⟨v, rfl, h.2, optDef zβ h.1⟩)
            refine ⟨⟨(true && ((t.plain && (plainSub sA)) && (plainSub sB))), .yes (c := ((t.plain && (plainSub sA)) && (plainSub sB))) (d := true) rfl (fun v w h => h), fun h w => optUndef h, fun zβ za zw zc => ?_⟩, ?_⟩
            · exact wp_not rfl ((show za.eval (.tmp 74) = za.tmps.getD 74 undef from rfl).trans (optVal (zc.dep 19 74 (by kernel_rfl)) rfl zβ)) ⟨_, rfl, Below.refl _ _, optDef zβ rfl⟩
            refine ⟨⟨true, .none rfl, fun h w => optUndef h, fun zβ za zw zc => ?_⟩, ?_⟩
            · exact wp_and rfl ((show za.eval (.tmp 65) = za.tmps.getD 65 undef from rfl).trans (optVal (zc.dep 10 65 (by kernel_rfl)) rfl rfl)) (fun hp => ((show za.eval (.tmp 75) = za.tmps.getD 75 undef from rfl).trans (optVal (zc.dep 20 75 (by kernel_rfl)) rfl (bMk zβ hp)))) ⟨_, rfl, Below.refl _ _, optDef zβ rfl⟩
            exact trivial
          · intro za w52 zh hb53 zu
            have zh := zh.cons (d := 76) (v := .bool ((((t.plain && (plainSub sA)) && (plainSub sB)) && (!(T.same (t.app R1) ((t.app sA).app sB)))))) (optVal (zu 21 76 (by kernel_rfl)) rfl rfl)
            clear zu
            refine (show WE _ [(0, .slice pa sA.length ca), (1, .slice pb sB.length cb), (2, .slice pc sC.length cc), (3, .agg #[.int .i64 t.f, .slice a t.args.length c]), (7, .pointer (some ⟨g2, 0, none⟩)), (8, .bool false), (9, .slice p1 R1.length c1), (10, .int .i64 0), (11, .slice p2 R2.length c2), (12, .int .i64 0), (34, .bool ((decide ((30 : Int) < (t.size : Int))))), (53, .bool false), (76, .bool ((((t.plain && (plainSub sA)) && (plainSub sB)) && (!(T.same (t.app R1) ((t.app sA).app sB))))))] w52 _ .normal from ?_) za (zh.sub ⟨rfl, rfl, rfl, rfl, rfl, rfl, rfl, rfl, rfl, rfl, rfl, rfl, rfl, trivial⟩)
            refine WE.next ?_
            refine WC.cond rfl (fun h54 => ?_) (fun h54 => ?_)
            · have h54 : (((t.plain = true) ∧ ((plainSub sA) = true)) ∧ ((plainSub sB) = true)) ∧ (¬ ((T.same (t.app R1) ((t.app sA).app sB)) = true)) := by simpa using h54
              refine WC.seq ?_
              refine WC.region ?_
              refine WL.val (.bool false) rfl rfl rfl (fun za zC zh zk => wp_assign rfl (zh.ev rfl) zk) ?_
              refine WL.nil (WE.sub (K' := [(0, .slice pa sA.length ca), (1, .slice pb sB.length cb), (2, .slice pc sC.length cc), (3, .agg #[.int .i64 t.f, .slice a t.args.length c]), (7, .pointer (some ⟨g2, 0, none⟩)), (8, .bool false), (9, .slice p1 R1.length c1), (10, .int .i64 0), (11, .slice p2 R2.length c2), (12, .int .i64 0), (34, .bool ((decide ((30 : Int) < (t.size : Int))))), (53, .bool false), (76, .bool ((((t.plain && (plainSub sA)) && (plainSub sB)) && (!(T.same (t.app R1) ((t.app sA).app sB))))))]) ⟨rfl, rfl, rfl, rfl, rfl, rfl, rfl, rfl, rfl, rfl, rfl, rfl, rfl, trivial⟩ ?_)
              refine WE.next ?_
              refine WC.ret ?_
              refine WE.thenRet ?_
              refine WE.ret1 rfl rfl ?_
              exfalso
              have z := h54
              have z1 : t.plain = true := by first | exact z.1.1.1 | (simp at z; exact z.1.1.1)
              have z2 := app_comp okA okB hR1 t z1
              rw [z2] at z
              simp [T.same_refl] at z
            · have h54 : ¬ ((((t.plain = true) ∧ ((plainSub sA) = true)) ∧ ((plainSub sB) = true)) ∧ (¬ ((T.same (t.app R1) ((t.app sA).app sB)) = true))) := by simpa using h54
              refine WC.skip ?_
              refine WE.next ?_
              refine WC.seq ?_
              refine WC.region ?_
              refine WL.val (.slice p1 R1.length c1) rfl rfl rfl (fun za zC zh zk => wp_move rfl (zh.ev rfl) zk) ?_
              refine WL.val (.slice pc sC.length cc) rfl rfl rfl (fun za zC zh zk => wp_move rfl (zh.ev rfl) zk) ?_
              have hb56 : Below w45.heap.size w45 w52 := (bstep hq46 hb53)
              have hb57 : Below w.heap.size w w52 := (bstep hb47 hb56)
              refine WL.call rfl rfl rfl (fun za zh zC => wp_call (by kernel_rfl) rfl (hv2 (zh.ev rfl) (zh.ev rfl))) (compYes (compose_any R1 sC _ _ _ _ _ (hIR1.below hb56) (hC.below hb57) (Nat.le_trans hnR1 (by decide)) hlc) ⟨okR1, okC⟩) ?_
              rintro _ w58 ⟨⟨R3, p3, c3, rfl, hR3, hN3⟩, hq55⟩
              have hzR3 := comp_size hR3 (M := 30) (N := (30 * 30)) (by decide) hzC hzR1.2 (by decide)
              have hnR3 : R3.length ≤ ((60 + 60) + 60) := by have z := hzR3.1; (try simp only [List.length_nil] at z); omega
              have hIR3 := hN3.isSub hnR3 (by decide) hzR3.2 (by decide)
              have okR3 := comp_ok okR1 okC hR3
              refine WL.val (.tuple #[.slice p3 R3.length c3, .int .i64 0]) rfl rfl rfl (fun za zC zh zk => wp_move rfl (zh.ev rfl) zk) ?_
              refine WL.val (.slice p3 R3.length c3) rfl rfl rfl (fun za zC zh zk => ext2_0 rfl (zh.ev rfl) zk) ?_
              refine WL.val (.int .i64 0) rfl rfl rfl (fun za zC zh zk => ext2_1 rfl (zh.ev rfl) zk) ?_
              refine WL.val (.slice p3 R3.length c3) rfl rfl rfl (fun za zC zh zk => wp_assign rfl (zh.ev rfl) zk) ?_
              refine WL.val (.int .i64 0) rfl rfl rfl (fun za zC zh zk => wp_assign rfl (zh.ev rfl) zk) ?_
              refine WL.nil (WE.sub (K' := [(0, .slice pa sA.length ca), (1, .slice pb sB.length cb), (2, .slice pc sC.length cc), (3, .agg #[.int .i64 t.f, .slice a t.args.length c]), (7, .pointer (some ⟨g2, 0, none⟩)), (8, .bool false), (9, .slice p1 R1.length c1), (10, .int .i64 0), (11, .slice p2 R2.length c2), (12, .int .i64 0), (13, .slice p3 R3.length c3), (14, .int .i64 0), (34, .bool ((decide ((30 : Int) < (t.size : Int))))), (53, .bool false), (76, .bool ((((t.plain && (plainSub sA)) && (plainSub sB)) && (!(T.same (t.app R1) ((t.app sA).app sB))))))]) ⟨rfl, rfl, rfl, rfl, rfl, rfl, rfl, rfl, rfl, rfl, rfl, rfl, rfl, rfl, rfl, trivial⟩ ?_)
              refine WE.next ?_
              refine WC.seq ?_
              refine WC.region ?_
              refine WL.val (.slice pa sA.length ca) rfl rfl rfl (fun za zC zh zk => wp_move rfl (zh.ev rfl) zk) ?_
              refine WL.val (.slice p2 R2.length c2) rfl rfl rfl (fun za zC zh zk => wp_move rfl (zh.ev rfl) zk) ?_
              have hb60 : Below w.heap.size w w58 := (bstep hb57 hq55)
              have hb61 : Below w48.heap.size w48 w58 := (bstep hb53 hq55)
              refine WL.call rfl rfl rfl (fun za zh zC => wp_call (by kernel_rfl) rfl (hv2 (zh.ev rfl) (zh.ev rfl))) (compYes (compose_any sA R2 _ _ _ _ _ (hA.below hb60) (hIR2.below hb61) hla (Nat.le_trans hnR2 (by decide))) ⟨okA, okR2⟩) ?_
              rintro _ w62 ⟨⟨R4, p4, c4, rfl, hR4, hN4⟩, hq59⟩
              have hzR4 := comp_size hR4 (M := (30 * 30)) (N := 30) (by decide) hzR2.2 hzA (by decide)
              have hnR4 : R4.length ≤ (60 + (60 + 60)) := by have z := hzR4.1; (try simp only [List.length_nil] at z); omega
              have hIR4 := hN4.isSub hnR4 (by decide) hzR4.2 (by decide)
              have okR4 := comp_ok okA okR2 hR4
              refine WL.val (.tuple #[.slice p4 R4.length c4, .int .i64 0]) rfl rfl rfl (fun za zC zh zk => wp_move rfl (zh.ev rfl) zk) ?_
              refine WL.val (.slice p4 R4.length c4) rfl rfl rfl (fun za zC zh zk => ext2_0 rfl (zh.ev rfl) zk) ?_
              refine WL.val (.int .i64 0) rfl rfl rfl (fun za zC zh zk => ext2_1 rfl (zh.ev rfl) zk) ?_
              refine WL.val (.slice p4 R4.length c4) rfl rfl rfl (fun za zC zh zk => wp_assign rfl (zh.ev rfl) zk) ?_
              refine WL.val (.int .i64 0) rfl rfl rfl (fun za zC zh zk => wp_assign rfl (zh.ev rfl) zk) ?_
              refine WL.nil (WE.sub (K' := [(0, .slice pa sA.length ca), (1, .slice pb sB.length cb), (2, .slice pc sC.length cc), (3, .agg #[.int .i64 t.f, .slice a t.args.length c]), (7, .pointer (some ⟨g2, 0, none⟩)), (8, .bool false), (9, .slice p1 R1.length c1), (10, .int .i64 0), (11, .slice p2 R2.length c2), (12, .int .i64 0), (13, .slice p3 R3.length c3), (14, .int .i64 0), (15, .slice p4 R4.length c4), (16, .int .i64 0), (34, .bool ((decide ((30 : Int) < (t.size : Int))))), (53, .bool false), (76, .bool ((((t.plain && (plainSub sA)) && (plainSub sB)) && (!(T.same (t.app R1) ((t.app sA).app sB))))))]) ⟨rfl, rfl, rfl, rfl, rfl, rfl, rfl, rfl, rfl, rfl, rfl, rfl, rfl, rfl, rfl, rfl, rfl, trivial⟩ ?_)
              refine WE.next ?_
              refine WC.seq ?_
              refine WC.region ?_
              refine WL.val (.slice pa sA.length ca) rfl rfl rfl (fun za zC zh zk => wp_move rfl (zh.ev rfl) zk) ?_
              have hb64 : Below w.heap.size w w62 := (bstep hb60 hq59)
              refine WL.call rfl rfl rfl (fun za zh zC => wp_call (by kernel_rfl) rfl (hv2 (zh.ev rfl) (zh.ev rfl))) (compYes (compose_any sA ([] : List Bd) _ _ _ _ _ (hA.below hb64) (isSub_nil _) hla (Nat.zero_le _)) ⟨okA, subOk_nil⟩) ?_
              rintro _ w65 ⟨⟨R5, p5, c5, rfl, hR5, hN5⟩, hq63⟩
              have hzR5 := comp_size hR5 (M := 1) (N := 30) (by decide) (fun x hx => nomatch hx) hzA (by decide)
              have hnR5 : R5.length ≤ (60 + 0) := by have z := hzR5.1; (try simp only [List.length_nil] at z); omega
              have hIR5 := hN5.isSub hnR5 (by decide) hzR5.2 (by decide)
              have okR5 := comp_ok okA subOk_nil hR5
              refine WL.val (.tuple #[.slice p5 R5.length c5, .int .i64 0]) rfl rfl rfl (fun za zC zh zk => wp_move rfl (zh.ev rfl) zk) ?_
              refine WL.val (.slice p5 R5.length c5) rfl rfl rfl (fun za zC zh zk => ext2_0 rfl (zh.ev rfl) zk) ?_
              refine WL.val (.int .i64 0) rfl rfl rfl (fun za zC zh zk => ext2_1 rfl (zh.ev rfl) zk) ?_
              refine WL.val (.slice p5 R5.length c5) rfl rfl rfl (fun za zC zh zk => wp_assign rfl (zh.ev rfl) zk) ?_
              refine WL.val (.int .i64 0) rfl rfl rfl (fun za zC zh zk => wp_assign rfl (zh.ev rfl) zk) ?_
              refine WL.nil (WE.sub (K' := [(0, .slice pa sA.length ca), (1, .slice pb sB.length cb), (2, .slice pc sC.length cc), (3, .agg #[.int .i64 t.f, .slice a t.args.length c]), (7, .pointer (some ⟨g2, 0, none⟩)), (8, .bool false), (9, .slice p1 R1.length c1), (10, .int .i64 0), (11, .slice p2 R2.length c2), (12, .int .i64 0), (13, .slice p3 R3.length c3), (14, .int .i64 0), (15, .slice p4 R4.length c4), (16, .int .i64 0), (17, .slice p5 R5.length c5), (18, .int .i64 0), (34, .bool ((decide ((30 : Int) < (t.size : Int))))), (53, .bool false), (76, .bool ((((t.plain && (plainSub sA)) && (plainSub sB)) && (!(T.same (t.app R1) ((t.app sA).app sB))))))]) ⟨rfl, rfl, rfl, rfl, rfl, rfl, rfl, rfl, rfl, rfl, rfl, rfl, rfl, rfl, rfl, rfl, rfl, rfl, rfl, trivial⟩ ?_)
              refine WE.next ?_
              refine WC.seq ?_
              refine WC.region ?_
              refine WL.val (.slice pa sA.length ca) rfl rfl rfl (fun za zC zh zk => wp_move rfl (zh.ev rfl) zk) ?_
              have hb67 : Below w.heap.size w w65 := (bstep hb64 hq63)
              refine WL.call rfl rfl rfl (fun za zh zC => wp_call (by kernel_rfl) rfl (hv2 (zh.ev rfl) (zh.ev rfl))) (compYes (compose_any ([] : List Bd) sA _ _ _ _ _ (isSub_nil _) (hA.below hb67) (Nat.zero_le _) hla) ⟨subOk_nil, okA⟩) ?_
              rintro _ w68 ⟨⟨R6, p6, c6, rfl, hR6, hN6⟩, hq66⟩
              have hzR6 := comp_size hR6 (M := 30) (N := 1) (by decide) hzA (fun x hx => nomatch hx) (by decide)
              have hnR6 : R6.length ≤ (0 + 60) := by have z := hzR6.1; (try simp only [List.length_nil] at z); omega
              have hIR6 := hN6.isSub hnR6 (by decide) hzR6.2 (by decide)
              have okR6 := comp_ok subOk_nil okA hR6
              refine WL.val (.tuple #[.slice p6 R6.length c6, .int .i64 0]) rfl rfl rfl (fun za zC zh zk => wp_move rfl (zh.ev rfl) zk) ?_
              refine WL.val (.slice p6 R6.length c6) rfl rfl rfl (fun za zC zh zk => ext2_0 rfl (zh.ev rfl) zk) ?_
              refine WL.val (.int .i64 0) rfl rfl rfl (fun za zC zh zk => ext2_1 rfl (zh.ev rfl) zk) ?_
              refine WL.val (.slice p6 R6.length c6) rfl rfl rfl (fun za zC zh zk => wp_assign rfl (zh.ev rfl) zk) ?_
              refine WL.val (.int .i64 0) rfl rfl rfl (fun za zC zh zk => wp_assign rfl (zh.ev rfl) zk) ?_
              refine WL.nil (WE.sub (K' := [(0, .slice pa sA.length ca), (1, .slice pb sB.length cb), (2, .slice pc sC.length cc), (3, .agg #[.int .i64 t.f, .slice a t.args.length c]), (7, .pointer (some ⟨g2, 0, none⟩)), (8, .bool false), (9, .slice p1 R1.length c1), (10, .int .i64 0), (11, .slice p2 R2.length c2), (12, .int .i64 0), (13, .slice p3 R3.length c3), (14, .int .i64 0), (15, .slice p4 R4.length c4), (16, .int .i64 0), (17, .slice p5 R5.length c5), (18, .int .i64 0), (19, .slice p6 R6.length c6), (20, .int .i64 0), (34, .bool ((decide ((30 : Int) < (t.size : Int))))), (53, .bool false), (76, .bool ((((t.plain && (plainSub sA)) && (plainSub sB)) && (!(T.same (t.app R1) ((t.app sA).app sB))))))]) ⟨rfl, rfl, rfl, rfl, rfl, rfl, rfl, rfl, rfl, rfl, rfl, rfl, rfl, rfl, rfl, rfl, rfl, rfl, rfl, rfl, rfl, trivial⟩ ?_)
              refine WE.next ?_
              refine WC.seq ?_
              refine WC.seq ?_
              refine WC.region ?_
              refine WL.val (.int .i64 0) rfl rfl rfl (fun za zC zh zk => wp_move rfl (zh.ev rfl) zk) ?_
              refine WL.val (.bool false) rfl rfl rfl (fun za zC zh zk => neq_26 rfl (zh.ev rfl) (zh.ev rfl) zk) ?_
              refine WL.val (.bool false) rfl rfl rfl (fun za zC zh zk => wp_move rfl (zh.ev rfl) zk) ?_
              refine WL.want (d := 101) rfl rfl rfl ?_
              refine WL.val (.int .i64 0) rfl rfl rfl (fun za zC zh zk => wp_move rfl (zh.ev rfl) zk) ?_
              refine WL.want (d := 101) rfl rfl rfl ?_
              refine WL.val (.bool false) rfl rfl rfl (fun za zC zh zk => neq_26 rfl (zh.ev rfl) (zh.ev rfl) zk) ?_
              refine WL.val (.bool false) rfl rfl rfl (fun za zC zh zk => wp_pickF rfl (zh.ev rfl) (zh.ev rfl) zk) ?_
              refine WL.val (.bool false) rfl rfl rfl (fun za zC zh zk => wp_move rfl (zh.ev rfl) zk) ?_
              refine WL.want (d := 105) rfl rfl rfl ?_
              refine WL.val (.int .i64 0) rfl rfl rfl (fun za zC zh zk => wp_move rfl (zh.ev rfl) zk) ?_
              refine WL.want (d := 105) rfl rfl rfl ?_
              refine WL.val (.bool false) rfl rfl rfl (fun za zC zh zk => neq_26 rfl (zh.ev rfl) (zh.ev rfl) zk) ?_
              refine WL.val (.bool false) rfl rfl rfl (fun za zC zh zk => wp_pickF rfl (zh.ev rfl) (zh.ev rfl) zk) ?_
              refine WL.val (.bool false) rfl rfl rfl (fun za zC zh zk => wp_move rfl (zh.ev rfl) zk) ?_
              refine WL.want (d := 109) rfl rfl rfl ?_
              refine WL.val (.int .i64 0) rfl rfl rfl (fun za zC zh zk => wp_move rfl (zh.ev rfl) zk) ?_
              refine WL.want (d := 109) rfl rfl rfl ?_
              refine WL.val (.bool false) rfl rfl rfl (fun za zC zh zk => neq_26 rfl (zh.ev rfl) (zh.ev rfl) zk) ?_
              refine WL.val (.bool false) rfl rfl rfl (fun za zC zh zk => wp_pickF rfl (zh.ev rfl) (zh.ev rfl) zk) ?_
              refine WL.nil (WE.sub (K' := [(0, .slice pa sA.length ca), (1, .slice pb sB.length cb), (2, .slice pc sC.length cc), (3, .agg #[.int .i64 t.f, .slice a t.args.length c]), (7, .pointer (some ⟨g2, 0, none⟩)), (8, .bool false), (9, .slice p1 R1.length c1), (10, .int .i64 0), (11, .slice p2 R2.length c2), (12, .int .i64 0), (13, .slice p3 R3.length c3), (14, .int .i64 0), (15, .slice p4 R4.length c4), (16, .int .i64 0), (17, .slice p5 R5.length c5), (18, .int .i64 0), (19, .slice p6 R6.length c6), (20, .int .i64 0), (34, .bool ((decide ((30 : Int) < (t.size : Int))))), (53, .bool false), (76, .bool ((((t.plain && (plainSub sA)) && (plainSub sB)) && (!(T.same (t.app R1) ((t.app sA).app sB)))))), (112, .bool false)]) ⟨rfl, rfl, rfl, rfl, rfl, rfl, rfl, rfl, rfl, rfl, rfl, rfl, rfl, rfl, rfl, rfl, rfl, rfl, rfl, rfl, rfl, rfl, trivial⟩ ?_)
              refine WE.next ?_
              refine WC.condF rfl rfl ?_
              refine WC.skip ?_
              refine WE.next ?_
              refine WC.seq ?_
              refine WC.region ?_
              refine WL.val (.slice p1 R1.length c1) rfl rfl rfl (fun za zC zh zk => wp_move rfl (zh.ev rfl) zk) ?_
              have hb69 : Below w45.heap.size w45 w68 := (bstep (bstep (bstep (bstep hq46 hb61) hq59) hq63) hq66)
              refine WL.call rfl rfl rfl (fun za zh zC => wp_call (by kernel_rfl) rfl (hv1 (zh.ev rfl))) (check_ok R1 _ _ _ (hIR1.below hb69) okR1) ?_
              rintro _ w71 ⟨rfl, hq70⟩
              refine WL.val (.bool true) rfl rfl rfl (fun za zC zh zk => eql_26 rfl (zh.ev rfl) (zh.ev rfl) zk) ?_
              refine WL.val (.bool true) rfl rfl rfl (fun za zC zh zk => wp_move rfl (zh.ev rfl) zk) ?_
              refine WL.want (d := 116) rfl rfl rfl ?_
              refine WL.val (.slice p5 R5.length c5) rfl rfl rfl (fun za zC zh zk => wp_move rfl (zh.ev rfl) zk) ?_
              refine WL.want (d := 116) rfl rfl rfl ?_
              refine WL.val (.slice pa sA.length ca) rfl rfl rfl (fun za zC zh zk => wp_move rfl (zh.ev rfl) zk) ?_
              refine WL.want (d := 116) rfl rfl rfl ?_
              have hb72 : Below w65.heap.size w65 w71 := (bstep hq66 hq70)
              have hb73 : Below w.heap.size w w71 := (bstep hb67 hb72)
              refine WL.call rfl rfl rfl (fun za zh zC => wp_call (by kernel_rfl) rfl (hv2 (zh.ev rfl) (zh.ev rfl))) (subSame_yes R5 sA _ _ _ _ _ (hIR5.below hb72) (hA.below hb73) (comp_nilR okA hR5)) ?_
              rintro _ w75 ⟨rfl, hq74⟩
              refine WL.val (.bool true) rfl rfl rfl (fun za zC zh zk => wp_pickT rfl (zh.ev rfl) (zh.ev rfl) zk) ?_
              refine WL.val (.bool true) rfl rfl rfl (fun za zC zh zk => wp_move rfl (zh.ev rfl) zk) ?_
              refine WL.want (d := 121) rfl rfl rfl ?_
              refine WL.val (.slice p6 R6.length c6) rfl rfl rfl (fun za zC zh zk => wp_move rfl (zh.ev rfl) zk) ?_
              refine WL.want (d := 121) rfl rfl rfl ?_
              refine WL.val (.slice pa sA.length ca) rfl rfl rfl (fun za zC zh zk => wp_move rfl (zh.ev rfl) zk) ?_
              refine WL.want (d := 121) rfl rfl rfl ?_
              have hb76 : Below w68.heap.size w68 w75 := (bstep hq70 hq74)
              have hb77 : Below w.heap.size w w75 := (bstep hb73 hq74)
              refine WL.call rfl rfl rfl (fun za zh zC => wp_call (by kernel_rfl) rfl (hv2 (zh.ev rfl) (zh.ev rfl))) (subSame_yes R6 sA _ _ _ _ _ (hIR6.below hb76) (hA.below hb77) (comp_nilL okA hR6)) ?_
              rintro _ w79 ⟨rfl, hq78⟩
              refine WL.val (.bool true) rfl rfl rfl (fun za zC zh zk => wp_pickT rfl (zh.ev rfl) (zh.ev rfl) zk) ?_
              refine WL.val (.bool true) rfl rfl rfl (fun za zC zh zk => wp_move rfl (zh.ev rfl) zk) ?_
              refine WL.want (d := 126) rfl rfl rfl ?_
              refine WL.val (.slice pa sA.length ca) rfl rfl rfl (fun za zC zh zk => wp_move rfl (zh.ev rfl) zk) ?_
              refine WL.want (d := 126) rfl rfl rfl ?_
              have hb80 : Below w.heap.size w w79 := (bstep hb77 hq78)
              refine WL.call rfl rfl rfl (fun za zh zC => wp_call (by kernel_rfl) rfl (hv1 (zh.ev rfl))) (plainIn_any sA _ _ _ (hA.below hb80)) ?_
              rintro _ w82 ⟨rfl, hq81⟩
              refine WL.want (d := 126) rfl rfl rfl ?_
              refine WL.val (.bool ((!(plainSub sA)))) rfl rfl rfl (fun za zC zh zk => wp_not rfl (zh.ev rfl) zk) ?_
              refine WL.want (d := 126) rfl rfl rfl ?_
              refine WL.val (.bool ((!(plainSub sA)))) rfl rfl rfl (fun za zC zh zk => wp_move rfl (zh.ev rfl) zk) ?_
              refine bool_split ((!(plainSub sA))) (fun h83 => ?_) (fun h83 => ?_)
              · refine WL.sub (K' := [(0, .slice pa sA.length ca), (1, .slice pb sB.length cb), (2, .slice pc sC.length cc), (3, .agg #[.int .i64 t.f, .slice a t.args.length c]), (7, .pointer (some ⟨g2, 0, none⟩)), (8, .bool false), (9, .slice p1 R1.length c1), (10, .int .i64 0), (11, .slice p2 R2.length c2), (12, .int .i64 0), (13, .slice p3 R3.length c3), (14, .int .i64 0), (15, .slice p4 R4.length c4), (16, .int .i64 0), (17, .slice p5 R5.length c5), (18, .int .i64 0), (19, .slice p6 R6.length c6), (20, .int .i64 0), (34, .bool ((decide ((30 : Int) < (t.size : Int))))), (53, .bool false), (76, .bool ((((t.plain && (plainSub sA)) && (plainSub sB)) && (!(T.same (t.app R1) ((t.app sA).app sB)))))), (112, .bool false), (113, .slice p1 R1.length c1), (114, .int .i64 0), (115, .bool true), (116, .bool true), (117, .slice p5 R5.length c5), (118, .slice pa sA.length ca), (119, .bool true), (120, .bool true), (121, .bool true), (122, .slice p6 R6.length c6), (123, .slice pa sA.length ca), (124, .bool true), (125, .bool true), (126, .bool true), (127, .slice pa sA.length ca), (128, .bool ((plainSub sA))), (129, .bool ((!(plainSub sA)))), (130, .bool true)]) ⟨rfl, rfl, rfl, rfl, rfl, rfl, rfl, rfl, rfl, rfl, rfl, rfl, rfl, rfl, rfl, rfl, rfl, rfl, rfl, rfl, rfl, rfl, rfl, rfl, rfl, rfl, rfl, rfl, rfl, rfl, rfl, rfl, rfl, rfl, rfl, rfl, rfl, rfl, rfl, (by exact congrArg (fun z => some (Value.bool z)) h83), trivial⟩ ?_
                have h83 : ¬ ((plainSub sA) = true) := by simpa using h83
                refine WL.skip (d := 130) rfl rfl rfl rfl rfl ?_
                refine WL.skip (d := 130) rfl rfl rfl rfl rfl ?_
                refine WL.skip (d := 130) rfl rfl rfl rfl rfl ?_
                refine WL.want (d := 126) rfl rfl rfl ?_
                refine WL.val (.bool true) rfl rfl rfl (fun za zC zh zk => wp_pickT rfl (zh.ev rfl) (zh.ev rfl) zk) ?_
                refine WL.want (d := 126) rfl rfl rfl ?_
                refine WL.val (.bool true) rfl rfl rfl (fun za zC zh zk => wp_move rfl (zh.ev rfl) zk) ?_
                refine WL.skip (d := 135) rfl rfl rfl rfl rfl ?_
                refine WL.skip (d := 135) rfl rfl rfl rfl rfl ?_
                refine WL.skip (d := 135) rfl rfl rfl rfl rfl ?_
                refine WL.want (d := 126) rfl rfl rfl ?_
                refine WL.val (.bool true) rfl rfl rfl (fun za zC zh zk => wp_pickT rfl (zh.ev rfl) (zh.ev rfl) zk) ?_
                refine WL.want (d := 126) rfl rfl rfl ?_
                refine WL.val (.bool true) rfl rfl rfl (fun za zC zh zk => wp_move rfl (zh.ev rfl) zk) ?_
                refine WL.skip (d := 140) rfl rfl rfl rfl rfl ?_
                refine WL.skip (d := 140) rfl rfl rfl rfl rfl ?_
                refine WL.skip (d := 140) rfl rfl rfl rfl rfl ?_
                refine WL.want (d := 126) rfl rfl rfl ?_
                refine WL.val (.bool true) rfl rfl rfl (fun za zC zh zk => wp_pickT rfl (zh.ev rfl) (zh.ev rfl) zk) ?_
                refine WL.val (.bool true) rfl rfl rfl (fun za zC zh zk => wp_pickT rfl (zh.ev rfl) (zh.ev rfl) zk) ?_
                refine WL.val (.bool true) rfl rfl rfl (fun za zC zh zk => wp_move rfl (zh.ev rfl) zk) ?_
                refine WL.want (d := 146) rfl rfl rfl ?_
                refine WL.call rfl rfl rfl (fun za zh zC => wp_call (by kernel_rfl) rfl (hv0)) (wakes_any _) ?_
                rintro _ w85 ⟨rfl, hq84⟩
                refine WL.val (.bool true) rfl rfl rfl (fun za zC zh zk => wp_pickT rfl (zh.ev rfl) (zh.ev rfl) zk) ?_
                refine WL.val (.bool true) rfl rfl rfl (fun za zC zh zk => wp_assign rfl (zh.ev rfl) zk) ?_
                refine WL.nil (WE.sub (K' := [(0, .slice pa sA.length ca), (1, .slice pb sB.length cb), (2, .slice pc sC.length cc), (3, .agg #[.int .i64 t.f, .slice a t.args.length c]), (7, .pointer (some ⟨g2, 0, none⟩)), (8, .bool true), (9, .slice p1 R1.length c1), (10, .int .i64 0), (11, .slice p2 R2.length c2), (12, .int .i64 0), (13, .slice p3 R3.length c3), (14, .int .i64 0), (15, .slice p4 R4.length c4), (16, .int .i64 0), (17, .slice p5 R5.length c5), (18, .int .i64 0), (19, .slice p6 R6.length c6), (20, .int .i64 0), (34, .bool ((decide ((30 : Int) < (t.size : Int))))), (53, .bool false), (76, .bool ((((t.plain && (plainSub sA)) && (plainSub sB)) && (!(T.same (t.app R1) ((t.app sA).app sB)))))), (112, .bool false)]) ⟨rfl, rfl, rfl, rfl, rfl, rfl, rfl, rfl, rfl, rfl, rfl, rfl, rfl, rfl, rfl, rfl, rfl, rfl, rfl, rfl, rfl, rfl, trivial⟩ ?_)
                refine WE.next ?_
                refine WC.ret ?_
                refine WE.ret1 rfl rfl ?_
                have hb86 : Below w.heap.size w w85 := (bstep (bstep hb80 hq81) hq84)
                exact ⟨_, rfl, rfl, hb86⟩
              · refine WL.sub (K' := [(0, .slice pa sA.length ca), (1, .slice pb sB.length cb), (2, .slice pc sC.length cc), (3, .agg #[.int .i64 t.f, .slice a t.args.length c]), (7, .pointer (some ⟨g2, 0, none⟩)), (8, .bool false), (9, .slice p1 R1.length c1), (10, .int .i64 0), (11, .slice p2 R2.length c2), (12, .int .i64 0), (13, .slice p3 R3.length c3), (14, .int .i64 0), (15, .slice p4 R4.length c4), (16, .int .i64 0), (17, .slice p5 R5.length c5), (18, .int .i64 0), (19, .slice p6 R6.length c6), (20, .int .i64 0), (34, .bool ((decide ((30 : Int) < (t.size : Int))))), (53, .bool false), (76, .bool ((((t.plain && (plainSub sA)) && (plainSub sB)) && (!(T.same (t.app R1) ((t.app sA).app sB)))))), (112, .bool false), (113, .slice p1 R1.length c1), (114, .int .i64 0), (115, .bool true), (116, .bool true), (117, .slice p5 R5.length c5), (118, .slice pa sA.length ca), (119, .bool true), (120, .bool true), (121, .bool true), (122, .slice p6 R6.length c6), (123, .slice pa sA.length ca), (124, .bool true), (125, .bool true), (126, .bool true), (127, .slice pa sA.length ca), (128, .bool ((plainSub sA))), (129, .bool ((!(plainSub sA)))), (130, .bool false)]) ⟨rfl, rfl, rfl, rfl, rfl, rfl, rfl, rfl, rfl, rfl, rfl, rfl, rfl, rfl, rfl, rfl, rfl, rfl, rfl, rfl, rfl, rfl, rfl, rfl, rfl, rfl, rfl, rfl, rfl, rfl, rfl, rfl, rfl, rfl, rfl, rfl, rfl, rfl, rfl, (by exact congrArg (fun z => some (Value.bool z)) h83), trivial⟩ ?_
                have h83 : ¬ (¬ ((plainSub sA) = true)) := by simpa using h83
                refine WL.want (d := 130) rfl rfl rfl ?_
                refine WL.val (.slice pb sB.length cb) rfl rfl rfl (fun za zC zh zk => wp_move rfl (zh.ev rfl) zk) ?_
                refine WL.want (d := 130) rfl rfl rfl ?_
                have hb87 : Below w.heap.size w w82 := (bstep hb80 hq81)
                refine WL.call rfl rfl rfl (fun za zh zC => wp_call (by kernel_rfl) rfl (hv1 (zh.ev rfl))) (plainIn_any sB _ _ _ (hB.below hb87)) ?_
                rintro _ w89 ⟨rfl, hq88⟩
                refine WL.want (d := 130) rfl rfl rfl ?_
                refine WL.val (.bool ((!(plainSub sB)))) rfl rfl rfl (fun za zC zh zk => wp_not rfl (zh.ev rfl) zk) ?_
                refine WL.want (d := 126) rfl rfl rfl ?_
                refine WL.val (.bool ((!(plainSub sB)))) rfl rfl rfl (fun za zC zh zk => wp_pickF rfl (zh.ev rfl) (zh.ev rfl) zk) ?_
                refine WL.want (d := 126) rfl rfl rfl ?_
                refine WL.val (.bool ((!(plainSub sB)))) rfl rfl rfl (fun za zC zh zk => wp_move rfl (zh.ev rfl) zk) ?_
                refine bool_split ((!(plainSub sB))) (fun h90 => ?_) (fun h90 => ?_)
                · refine WL.sub (K' := [(0, .slice pa sA.length ca), (1, .slice pb sB.length cb), (2, .slice pc sC.length cc), (3, .agg #[.int .i64 t.f, .slice a t.args.length c]), (7, .pointer (some ⟨g2, 0, none⟩)), (8, .bool false), (9, .slice p1 R1.length c1), (10, .int .i64 0), (11, .slice p2 R2.length c2), (12, .int .i64 0), (13, .slice p3 R3.length c3), (14, .int .i64 0), (15, .slice p4 R4.length c4), (16, .int .i64 0), (17, .slice p5 R5.length c5), (18, .int .i64 0), (19, .slice p6 R6.length c6), (20, .int .i64 0), (34, .bool ((decide ((30 : Int) < (t.size : Int))))), (53, .bool false), (76, .bool ((((t.plain && (plainSub sA)) && (plainSub sB)) && (!(T.same (t.app R1) ((t.app sA).app sB)))))), (112, .bool false), (113, .slice p1 R1.length c1), (114, .int .i64 0), (115, .bool true), (116, .bool true), (117, .slice p5 R5.length c5), (118, .slice pa sA.length ca), (119, .bool true), (120, .bool true), (121, .bool true), (122, .slice p6 R6.length c6), (123, .slice pa sA.length ca), (124, .bool true), (125, .bool true), (126, .bool true), (127, .slice pa sA.length ca), (128, .bool ((plainSub sA))), (129, .bool ((!(plainSub sA)))), (130, .bool false), (131, .slice pb sB.length cb), (132, .bool ((plainSub sB))), (133, .bool ((!(plainSub sB)))), (134, .bool ((!(plainSub sB)))), (135, .bool true)]) ⟨rfl, rfl, rfl, rfl, rfl, rfl, rfl, rfl, rfl, rfl, rfl, rfl, rfl, rfl, rfl, rfl, rfl, rfl, rfl, rfl, rfl, rfl, rfl, rfl, rfl, rfl, rfl, rfl, rfl, rfl, rfl, rfl, rfl, rfl, rfl, rfl, rfl, rfl, rfl, rfl, rfl, rfl, rfl, rfl, (by exact congrArg (fun z => some (Value.bool z)) h90), trivial⟩ ?_
                  have h90 : ¬ ((plainSub sB) = true) := by simpa using h90
                  refine WL.skip (d := 135) rfl rfl rfl rfl rfl ?_
                  refine WL.skip (d := 135) rfl rfl rfl rfl rfl ?_
                  refine WL.skip (d := 135) rfl rfl rfl rfl rfl ?_
                  refine WL.want (d := 126) rfl rfl rfl ?_
                  refine WL.val (.bool true) rfl rfl rfl (fun za zC zh zk => wp_pickT rfl (zh.ev rfl) (zh.ev rfl) zk) ?_
                  refine WL.want (d := 126) rfl rfl rfl ?_
                  refine WL.val (.bool true) rfl rfl rfl (fun za zC zh zk => wp_move rfl (zh.ev rfl) zk) ?_
                  refine WL.skip (d := 140) rfl rfl rfl rfl rfl ?_
                  refine WL.skip (d := 140) rfl rfl rfl rfl rfl ?_
                  refine WL.skip (d := 140) rfl rfl rfl rfl rfl ?_
                  refine WL.want (d := 126) rfl rfl rfl ?_
                  refine WL.val (.bool true) rfl rfl rfl (fun za zC zh zk => wp_pickT rfl (zh.ev rfl) (zh.ev rfl) zk) ?_
                  refine WL.val (.bool true) rfl rfl rfl (fun za zC zh zk => wp_pickT rfl (zh.ev rfl) (zh.ev rfl) zk) ?_
                  refine WL.val (.bool true) rfl rfl rfl (fun za zC zh zk => wp_move rfl (zh.ev rfl) zk) ?_
                  refine WL.want (d := 146) rfl rfl rfl ?_
                  refine WL.call rfl rfl rfl (fun za zh zC => wp_call (by kernel_rfl) rfl (hv0)) (wakes_any _) ?_
                  rintro _ w92 ⟨rfl, hq91⟩
                  refine WL.val (.bool true) rfl rfl rfl (fun za zC zh zk => wp_pickT rfl (zh.ev rfl) (zh.ev rfl) zk) ?_
                  refine WL.val (.bool true) rfl rfl rfl (fun za zC zh zk => wp_assign rfl (zh.ev rfl) zk) ?_
                  refine WL.nil (WE.sub (K' := [(0, .slice pa sA.length ca), (1, .slice pb sB.length cb), (2, .slice pc sC.length cc), (3, .agg #[.int .i64 t.f, .slice a t.args.length c]), (7, .pointer (some ⟨g2, 0, none⟩)), (8, .bool true), (9, .slice p1 R1.length c1), (10, .int .i64 0), (11, .slice p2 R2.length c2), (12, .int .i64 0), (13, .slice p3 R3.length c3), (14, .int .i64 0), (15, .slice p4 R4.length c4), (16, .int .i64 0), (17, .slice p5 R5.length c5), (18, .int .i64 0), (19, .slice p6 R6.length c6), (20, .int .i64 0), (34, .bool ((decide ((30 : Int) < (t.size : Int))))), (53, .bool false), (76, .bool ((((t.plain && (plainSub sA)) && (plainSub sB)) && (!(T.same (t.app R1) ((t.app sA).app sB)))))), (112, .bool false)]) ⟨rfl, rfl, rfl, rfl, rfl, rfl, rfl, rfl, rfl, rfl, rfl, rfl, rfl, rfl, rfl, rfl, rfl, rfl, rfl, rfl, rfl, rfl, trivial⟩ ?_)
                  refine WE.next ?_
                  refine WC.ret ?_
                  refine WE.ret1 rfl rfl ?_
                  have hb93 : Below w.heap.size w w92 := (bstep (bstep hb87 hq88) hq91)
                  exact ⟨_, rfl, rfl, hb93⟩
                · refine WL.sub (K' := [(0, .slice pa sA.length ca), (1, .slice pb sB.length cb), (2, .slice pc sC.length cc), (3, .agg #[.int .i64 t.f, .slice a t.args.length c]), (7, .pointer (some ⟨g2, 0, none⟩)), (8, .bool false), (9, .slice p1 R1.length c1), (10, .int .i64 0), (11, .slice p2 R2.length c2), (12, .int .i64 0), (13, .slice p3 R3.length c3), (14, .int .i64 0), (15, .slice p4 R4.length c4), (16, .int .i64 0), (17, .slice p5 R5.length c5), (18, .int .i64 0), (19, .slice p6 R6.length c6), (20, .int .i64 0), (34, .bool ((decide ((30 : Int) < (t.size : Int))))), (53, .bool false), (76, .bool ((((t.plain && (plainSub sA)) && (plainSub sB)) && (!(T.same (t.app R1) ((t.app sA).app sB)))))), (112, .bool false), (113, .slice p1 R1.length c1), (114, .int .i64 0), (115, .bool true), (116, .bool true), (117, .slice p5 R5.length c5), (118, .slice pa sA.length ca), (119, .bool true), (120, .bool true), (121, .bool true), (122, .slice p6 R6.length c6), (123, .slice pa sA.length ca), (124, .bool true), (125, .bool true), (126, .bool true), (127, .slice pa sA.length ca), (128, .bool ((plainSub sA))), (129, .bool ((!(plainSub sA)))), (130, .bool false), (131, .slice pb sB.length cb), (132, .bool ((plainSub sB))), (133, .bool ((!(plainSub sB)))), (134, .bool ((!(plainSub sB)))), (135, .bool false)]) ⟨rfl, rfl, rfl, rfl, rfl, rfl, rfl, rfl, rfl, rfl, rfl, rfl, rfl, rfl, rfl, rfl, rfl, rfl, rfl, rfl, rfl, rfl, rfl, rfl, rfl, rfl, rfl, rfl, rfl, rfl, rfl, rfl, rfl, rfl, rfl, rfl, rfl, rfl, rfl, rfl, rfl, rfl, rfl, rfl, (by exact congrArg (fun z => some (Value.bool z)) h90), trivial⟩ ?_
                  have h90 : ¬ (¬ ((plainSub sB) = true)) := by simpa using h90
                  refine WL.want (d := 135) rfl rfl rfl ?_
                  refine WL.val (.slice pc sC.length cc) rfl rfl rfl (fun za zC zh zk => wp_move rfl (zh.ev rfl) zk) ?_
                  refine WL.want (d := 135) rfl rfl rfl ?_
                  have hb94 : Below w.heap.size w w89 := (bstep hb87 hq88)
                  refine WL.call rfl rfl rfl (fun za zh zC => wp_call (by kernel_rfl) rfl (hv1 (zh.ev rfl))) (plainIn_any sC _ _ _ (hC.below hb94)) ?_
                  rintro _ w96 ⟨rfl, hq95⟩
                  refine WL.want (d := 135) rfl rfl rfl ?_
                  refine WL.val (.bool ((!(plainSub sC)))) rfl rfl rfl (fun za zC zh zk => wp_not rfl (zh.ev rfl) zk) ?_
                  refine WL.want (d := 126) rfl rfl rfl ?_
                  refine WL.val (.bool ((!(plainSub sC)))) rfl rfl rfl (fun za zC zh zk => wp_pickF rfl (zh.ev rfl) (zh.ev rfl) zk) ?_
                  refine WL.want (d := 126) rfl rfl rfl ?_
                  refine WL.val (.bool ((!(plainSub sC)))) rfl rfl rfl (fun za zC zh zk => wp_move rfl (zh.ev rfl) zk) ?_
                  refine bool_split ((!(plainSub sC))) (fun h97 => ?_) (fun h97 => ?_)
                  · refine WL.sub (K' := [(0, .slice pa sA.length ca), (1, .slice pb sB.length cb), (2, .slice pc sC.length cc), (3, .agg #[.int .i64 t.f, .slice a t.args.length c]), (7, .pointer (some ⟨g2, 0, none⟩)), (8, .bool false), (9, .slice p1 R1.length c1), (10, .int .i64 0), (11, .slice p2 R2.length c2), (12, .int .i64 0), (13, .slice p3 R3.length c3), (14, .int .i64 0), (15, .slice p4 R4.length c4), (16, .int .i64 0), (17, .slice p5 R5.length c5), (18, .int .i64 0), (19, .slice p6 R6.length c6), (20, .int .i64 0), (34, .bool ((decide ((30 : Int) < (t.size : Int))))), (53, .bool false), (76, .bool ((((t.plain && (plainSub sA)) && (plainSub sB)) && (!(T.same (t.app R1) ((t.app sA).app sB)))))), (112, .bool false), (113, .slice p1 R1.length c1), (114, .int .i64 0), (115, .bool true), (116, .bool true), (117, .slice p5 R5.length c5), (118, .slice pa sA.length ca), (119, .bool true), (120, .bool true), (121, .bool true), (122, .slice p6 R6.length c6), (123, .slice pa sA.length ca), (124, .bool true), (125, .bool true), (126, .bool true), (127, .slice pa sA.length ca), (128, .bool ((plainSub sA))), (129, .bool ((!(plainSub sA)))), (130, .bool false), (131, .slice pb sB.length cb), (132, .bool ((plainSub sB))), (133, .bool ((!(plainSub sB)))), (134, .bool ((!(plainSub sB)))), (135, .bool false), (136, .slice pc sC.length cc), (137, .bool ((plainSub sC))), (138, .bool ((!(plainSub sC)))), (139, .bool ((!(plainSub sC)))), (140, .bool true)]) ⟨rfl, rfl, rfl, rfl, rfl, rfl, rfl, rfl, rfl, rfl, rfl, rfl, rfl, rfl, rfl, rfl, rfl, rfl, rfl, rfl, rfl, rfl, rfl, rfl, rfl, rfl, rfl, rfl, rfl, rfl, rfl, rfl, rfl, rfl, rfl, rfl, rfl, rfl, rfl, rfl, rfl, rfl, rfl, rfl, rfl, rfl, rfl, rfl, rfl, (by exact congrArg (fun z => some (Value.bool z)) h97), trivial⟩ ?_
                    have h97 : ¬ ((plainSub sC) = true) := by simpa using h97
                    refine WL.skip (d := 140) rfl rfl rfl rfl rfl ?_
                    refine WL.skip (d := 140) rfl rfl rfl rfl rfl ?_
                    refine WL.skip (d := 140) rfl rfl rfl rfl rfl ?_
                    refine WL.want (d := 126) rfl rfl rfl ?_
                    refine WL.val (.bool true) rfl rfl rfl (fun za zC zh zk => wp_pickT rfl (zh.ev rfl) (zh.ev rfl) zk) ?_
                    refine WL.val (.bool true) rfl rfl rfl (fun za zC zh zk => wp_pickT rfl (zh.ev rfl) (zh.ev rfl) zk) ?_
                    refine WL.val (.bool true) rfl rfl rfl (fun za zC zh zk => wp_move rfl (zh.ev rfl) zk) ?_
                    refine WL.want (d := 146) rfl rfl rfl ?_
                    refine WL.call rfl rfl rfl (fun za zh zC => wp_call (by kernel_rfl) rfl (hv0)) (wakes_any _) ?_
                    rintro _ w99 ⟨rfl, hq98⟩
                    refine WL.val (.bool true) rfl rfl rfl (fun za zC zh zk => wp_pickT rfl (zh.ev rfl) (zh.ev rfl) zk) ?_
                    refine WL.val (.bool true) rfl rfl rfl (fun za zC zh zk => wp_assign rfl (zh.ev rfl) zk) ?_
                    refine WL.nil (WE.sub (K' := [(0, .slice pa sA.length ca), (1, .slice pb sB.length cb), (2, .slice pc sC.length cc), (3, .agg #[.int .i64 t.f, .slice a t.args.length c]), (7, .pointer (some ⟨g2, 0, none⟩)), (8, .bool true), (9, .slice p1 R1.length c1), (10, .int .i64 0), (11, .slice p2 R2.length c2), (12, .int .i64 0), (13, .slice p3 R3.length c3), (14, .int .i64 0), (15, .slice p4 R4.length c4), (16, .int .i64 0), (17, .slice p5 R5.length c5), (18, .int .i64 0), (19, .slice p6 R6.length c6), (20, .int .i64 0), (34, .bool ((decide ((30 : Int) < (t.size : Int))))), (53, .bool false), (76, .bool ((((t.plain && (plainSub sA)) && (plainSub sB)) && (!(T.same (t.app R1) ((t.app sA).app sB)))))), (112, .bool false)]) ⟨rfl, rfl, rfl, rfl, rfl, rfl, rfl, rfl, rfl, rfl, rfl, rfl, rfl, rfl, rfl, rfl, rfl, rfl, rfl, rfl, rfl, rfl, trivial⟩ ?_)
                    refine WE.next ?_
                    refine WC.ret ?_
                    refine WE.ret1 rfl rfl ?_
                    have hb100 : Below w.heap.size w w99 := (bstep (bstep hb94 hq95) hq98)
                    exact ⟨_, rfl, rfl, hb100⟩
                  · refine WL.sub (K' := [(0, .slice pa sA.length ca), (1, .slice pb sB.length cb), (2, .slice pc sC.length cc), (3, .agg #[.int .i64 t.f, .slice a t.args.length c]), (7, .pointer (some ⟨g2, 0, none⟩)), (8, .bool false), (9, .slice p1 R1.length c1), (10, .int .i64 0), (11, .slice p2 R2.length c2), (12, .int .i64 0), (13, .slice p3 R3.length c3), (14, .int .i64 0), (15, .slice p4 R4.length c4), (16, .int .i64 0), (17, .slice p5 R5.length c5), (18, .int .i64 0), (19, .slice p6 R6.length c6), (20, .int .i64 0), (34, .bool ((decide ((30 : Int) < (t.size : Int))))), (53, .bool false), (76, .bool ((((t.plain && (plainSub sA)) && (plainSub sB)) && (!(T.same (t.app R1) ((t.app sA).app sB)))))), (112, .bool false), (113, .slice p1 R1.length c1), (114, .int .i64 0), (115, .bool true), (116, .bool true), (117, .slice p5 R5.length c5), (118, .slice pa sA.length ca), (119, .bool true), (120, .bool true), (121, .bool true), (122, .slice p6 R6.length c6), (123, .slice pa sA.length ca), (124, .bool true), (125, .bool true), (126, .bool true), (127, .slice pa sA.length ca), (128, .bool ((plainSub sA))), (129, .bool ((!(plainSub sA)))), (130, .bool false), (131, .slice pb sB.length cb), (132, .bool ((plainSub sB))), (133, .bool ((!(plainSub sB)))), (134, .bool ((!(plainSub sB)))), (135, .bool false), (136, .slice pc sC.length cc), (137, .bool ((plainSub sC))), (138, .bool ((!(plainSub sC)))), (139, .bool ((!(plainSub sC)))), (140, .bool false)]) ⟨rfl, rfl, rfl, rfl, rfl, rfl, rfl, rfl, rfl, rfl, rfl, rfl, rfl, rfl, rfl, rfl, rfl, rfl, rfl, rfl, rfl, rfl, rfl, rfl, rfl, rfl, rfl, rfl, rfl, rfl, rfl, rfl, rfl, rfl, rfl, rfl, rfl, rfl, rfl, rfl, rfl, rfl, rfl, rfl, rfl, rfl, rfl, rfl, rfl, (by exact congrArg (fun z => some (Value.bool z)) h97), trivial⟩ ?_
                    have h97 : ¬ (¬ ((plainSub sC) = true)) := by simpa using h97
                    refine WL.want (d := 140) rfl rfl rfl ?_
                    refine WL.val (.slice p3 R3.length c3) rfl rfl rfl (fun za zC zh zk => wp_move rfl (zh.ev rfl) zk) ?_
                    refine WL.want (d := 140) rfl rfl rfl ?_
                    refine WL.val (.slice p4 R4.length c4) rfl rfl rfl (fun za zC zh zk => wp_move rfl (zh.ev rfl) zk) ?_
                    refine WL.want (d := 140) rfl rfl rfl ?_
                    have hb101 : Below w58.heap.size w58 w96 := (bstep (bstep (bstep (bstep (bstep (bstep (bstep hq59 hq63) hq66) hb76) hq78) hq81) hq88) hq95)
                    have hb102 : Below w62.heap.size w62 w96 := (bstep (bstep (bstep (bstep (bstep (bstep hq63 hq66) hb76) hq78) hq81) hq88) hq95)
                    refine WL.call rfl rfl rfl (fun za zh zC => wp_call (by kernel_rfl) rfl (hv2 (zh.ev rfl) (zh.ev rfl))) (subSame_yes R3 R4 _ _ _ _ _ (hIR3.below hb101) (hIR4.below hb102) (comp_assoc okA okB okC hR1 hR2 hR3 hR4 (by simpa using h83))) ?_
                    rintro _ w104 ⟨rfl, hq103⟩
                    refine WL.want (d := 126) rfl rfl rfl ?_
                    refine WL.val (.bool true) rfl rfl rfl (fun za zC zh zk => wp_pickF rfl (zh.ev rfl) (zh.ev rfl) zk) ?_
                    refine WL.val (.bool true) rfl rfl rfl (fun za zC zh zk => wp_pickT rfl (zh.ev rfl) (zh.ev rfl) zk) ?_
                    refine WL.val (.bool true) rfl rfl rfl (fun za zC zh zk => wp_move rfl (zh.ev rfl) zk) ?_
                    refine WL.want (d := 146) rfl rfl rfl ?_
                    refine WL.call rfl rfl rfl (fun za zh zC => wp_call (by kernel_rfl) rfl (hv0)) (wakes_any _) ?_
                    rintro _ w106 ⟨rfl, hq105⟩
                    refine WL.val (.bool true) rfl rfl rfl (fun za zC zh zk => wp_pickT rfl (zh.ev rfl) (zh.ev rfl) zk) ?_
                    refine WL.val (.bool true) rfl rfl rfl (fun za zC zh zk => wp_assign rfl (zh.ev rfl) zk) ?_
                    refine WL.nil (WE.sub (K' := [(0, .slice pa sA.length ca), (1, .slice pb sB.length cb), (2, .slice pc sC.length cc), (3, .agg #[.int .i64 t.f, .slice a t.args.length c]), (7, .pointer (some ⟨g2, 0, none⟩)), (8, .bool true), (9, .slice p1 R1.length c1), (10, .int .i64 0), (11, .slice p2 R2.length c2), (12, .int .i64 0), (13, .slice p3 R3.length c3), (14, .int .i64 0), (15, .slice p4 R4.length c4), (16, .int .i64 0), (17, .slice p5 R5.length c5), (18, .int .i64 0), (19, .slice p6 R6.length c6), (20, .int .i64 0), (34, .bool ((decide ((30 : Int) < (t.size : Int))))), (53, .bool false), (76, .bool ((((t.plain && (plainSub sA)) && (plainSub sB)) && (!(T.same (t.app R1) ((t.app sA).app sB)))))), (112, .bool false)]) ⟨rfl, rfl, rfl, rfl, rfl, rfl, rfl, rfl, rfl, rfl, rfl, rfl, rfl, rfl, rfl, rfl, rfl, rfl, rfl, rfl, rfl, rfl, trivial⟩ ?_)
                    refine WE.next ?_
                    refine WC.ret ?_
                    refine WE.ret1 rfl rfl ?_
                    have hb107 : Below w.heap.size w w106 := (bstep (bstep (bstep hb60 hb101) hq103) hq105)
                    exact ⟨_, rfl, rfl, hb107⟩

set_option maxRecDepth 100000 in
theorem twice_no1 (sA sB sC : List Bd) (t : T) (w : World) (pa pb pc : Option Addr) (ca cb cc : Nat) (v : Value) (hA : IsSub w sA pa ca) (hB : IsSub w sB pb cb) (hC : IsSub w sC pc cc) (hla : sA.length ≤ 1048576) (hlb : sB.length ≤ 1048576) (hlc : sC.length ≤ 1048576) (hz : t.size ≤ 4294967296) (hv : IsT w t v) (hno : ¬ (subOk (-1) sA = true ∧ subOk (-1) sB = true)) : Calls Try.prog 4 #[.slice pa sA.length ca, .slice pb sB.length cb, .slice pc sC.length cc, v] w (Ret fun v' w' => v' = .bool true ∧ Below w.heap.size w w') := by
  have hvt := hv
  obtain ⟨hf, a, c, rfl, hc, hmx, hl⟩ := hv.form
  refine Calls.walk (l := [.slice pa sA.length ca, .slice pb sB.length cb, .slice pc sC.length cc, .agg #[.int .i64 t.f, .slice a t.args.length c]]) Try.func4 rfl (by kernel_rfl) ?_
  refine WC.sub (K' := [(0, .slice pa sA.length ca), (1, .slice pb sB.length cb), (2, .slice pc sC.length cc), (3, .agg #[.int .i64 t.f, .slice a t.args.length c])]) ⟨rfl, rfl, rfl, rfl, trivial⟩ ?_
  refine WC.seq ?_
  refine WC.region ?_
  refine WL.step (post := NewBlk w 32 #[.int .i64 t.f, .slice a t.args.length c]) rfl rfl rfl (fun za zC zh zk => box_32 rfl (zh.ev rfl) (zk _ _ (newBlk _ _ _))) ?_
  rintro _ w1 ⟨g2, rfl, hg3, hB4, hb5, hz6⟩
  have hl7 : w.heap.size ≤ g2 := by omega
  refine WL.val (.bool false) rfl rfl rfl (fun za zC zh zk => wp_assign rfl (zh.ev rfl) zk) ?_
  refine WL.nil (WE.sub (K' := [(0, .slice pa sA.length ca), (1, .slice pb sB.length cb), (2, .slice pc sC.length cc), (3, .agg #[.int .i64 t.f, .slice a t.args.length c]), (7, .pointer (some ⟨g2, 0, none⟩)), (8, .bool false)]) ⟨rfl, rfl, rfl, rfl, rfl, rfl, trivial⟩ ?_)
  refine WE.next ?_
  refine WC.seq ?_
  refine WC.seq ?_
  refine WC.region ?_
  refine WL.val (.slice pa sA.length ca) rfl rfl rfl (fun za zC zh zk => wp_move rfl (zh.ev rfl) zk) ?_
  refine WL.call rfl rfl rfl (fun za zh zC => wp_call (by kernel_rfl) rfl (hv2 (zh.ev rfl) (zh.ev rfl))) (large_any sA 30 _ _ _ (hA.below hb5)) ?_
  rintro _ w11 ⟨⟨bl8, rfl, hS10⟩, hq9⟩
  refine WL.val (.bool bl8) rfl rfl rfl (fun za zC zh zk => wp_move rfl (zh.ev rfl) zk) ?_
  refine bool_split bl8 (fun h12 => ?_) (fun h12 => ?_)
  · refine WL.sub (K' := [(0, .slice pa sA.length ca), (1, .slice pb sB.length cb), (2, .slice pc sC.length cc), (3, .agg #[.int .i64 t.f, .slice a t.args.length c]), (7, .pointer (some ⟨g2, 0, none⟩)), (8, .bool false), (21, .slice pa sA.length ca), (22, .bool bl8), (23, .bool true)]) ⟨rfl, rfl, rfl, rfl, rfl, rfl, rfl, rfl, (by exact congrArg (fun z => some (Value.bool z)) h12), trivial⟩ ?_
    refine WL.skip (d := 23) rfl rfl rfl rfl rfl ?_
    refine WL.skip (d := 23) rfl rfl rfl rfl rfl ?_
    refine WL.val (.bool true) rfl rfl rfl (fun za zC zh zk => wp_pickT rfl (zh.ev rfl) (zh.ev rfl) zk) ?_
    refine WL.val (.bool true) rfl rfl rfl (fun za zC zh zk => wp_move rfl (zh.ev rfl) zk) ?_
    refine WL.skip (d := 27) rfl rfl rfl rfl rfl ?_
    refine WL.skip (d := 27) rfl rfl rfl rfl rfl ?_
    refine WL.val (.bool true) rfl rfl rfl (fun za zC zh zk => wp_pickT rfl (zh.ev rfl) (zh.ev rfl) zk) ?_
    refine WL.val (.bool true) rfl rfl rfl (fun za zC zh zk => wp_move rfl (zh.ev rfl) zk) ?_
    refine WL.skip (d := 31) rfl rfl rfl rfl rfl ?_
    refine WL.skip (d := 31) rfl rfl rfl rfl rfl ?_
    refine WL.val (.bool true) rfl rfl rfl (fun za zC zh zk => wp_pickT rfl (zh.ev rfl) (zh.ev rfl) zk) ?_
    refine WL.nil (WE.sub (K' := [(0, .slice pa sA.length ca), (1, .slice pb sB.length cb), (2, .slice pc sC.length cc), (3, .agg #[.int .i64 t.f, .slice a t.args.length c]), (7, .pointer (some ⟨g2, 0, none⟩)), (8, .bool false), (34, .bool true)]) ⟨rfl, rfl, rfl, rfl, rfl, rfl, rfl, trivial⟩ ?_)
    refine WE.next ?_
    refine WC.condT rfl rfl ?_
    refine WC.seq ?_
    refine WC.region ?_
    refine WL.call rfl rfl rfl (fun za zh zC => wp_call (by kernel_rfl) rfl (hv0)) (wakes_any _) ?_
    rintro _ w14 ⟨rfl, hq13⟩
    refine WL.val (.bool true) rfl rfl rfl (fun za zC zh zk => wp_assign rfl (zh.ev rfl) zk) ?_
    refine WL.nil (WE.sub (K' := [(0, .slice pa sA.length ca), (1, .slice pb sB.length cb), (2, .slice pc sC.length cc), (3, .agg #[.int .i64 t.f, .slice a t.args.length c]), (7, .pointer (some ⟨g2, 0, none⟩)), (8, .bool true), (34, .bool true)]) ⟨rfl, rfl, rfl, rfl, rfl, rfl, rfl, trivial⟩ ?_)
    refine WE.next ?_
    refine WC.ret ?_
    refine WE.thenRet ?_
    refine WE.ret1 rfl rfl ?_
    have hb15 : Below w.heap.size w w14 := (bstep (bstep hb5 hq9) hq13)
    exact ⟨_, rfl, rfl, hb15⟩
  · refine WL.sub (K' := [(0, .slice pa sA.length ca), (1, .slice pb sB.length cb), (2, .slice pc sC.length cc), (3, .agg #[.int .i64 t.f, .slice a t.args.length c]), (7, .pointer (some ⟨g2, 0, none⟩)), (8, .bool false), (21, .slice pa sA.length ca), (22, .bool bl8), (23, .bool false)]) ⟨rfl, rfl, rfl, rfl, rfl, rfl, rfl, rfl, (by exact congrArg (fun z => some (Value.bool z)) h12), trivial⟩ ?_
    refine WL.want (d := 23) rfl rfl rfl ?_
    refine WL.val (.slice pb sB.length cb) rfl rfl rfl (fun za zC zh zk => wp_move rfl (zh.ev rfl) zk) ?_
    refine WL.want (d := 23) rfl rfl rfl ?_
    have hb19 : Below w.heap.size w w11 := (bstep hb5 hq9)
    refine WL.call rfl rfl rfl (fun za zh zC => wp_call (by kernel_rfl) rfl (hv2 (zh.ev rfl) (zh.ev rfl))) (large_any sB 30 _ _ _ (hB.below hb19)) ?_
    rintro _ w20 ⟨⟨bl16, rfl, hS18⟩, hq17⟩
    refine WL.val (.bool bl16) rfl rfl rfl (fun za zC zh zk => wp_pickF rfl (zh.ev rfl) (zh.ev rfl) zk) ?_
    refine WL.val (.bool bl16) rfl rfl rfl (fun za zC zh zk => wp_move rfl (zh.ev rfl) zk) ?_
    refine bool_split bl16 (fun h21 => ?_) (fun h21 => ?_)
    · refine WL.sub (K' := [(0, .slice pa sA.length ca), (1, .slice pb sB.length cb), (2, .slice pc sC.length cc), (3, .agg #[.int .i64 t.f, .slice a t.args.length c]), (7, .pointer (some ⟨g2, 0, none⟩)), (8, .bool false), (21, .slice pa sA.length ca), (22, .bool bl8), (23, .bool false), (24, .slice pb sB.length cb), (25, .bool bl16), (26, .bool bl16), (27, .bool true)]) ⟨rfl, rfl, rfl, rfl, rfl, rfl, rfl, rfl, rfl, rfl, rfl, rfl, (by exact congrArg (fun z => some (Value.bool z)) h21), trivial⟩ ?_
      refine WL.skip (d := 27) rfl rfl rfl rfl rfl ?_
      refine WL.skip (d := 27) rfl rfl rfl rfl rfl ?_
      refine WL.val (.bool true) rfl rfl rfl (fun za zC zh zk => wp_pickT rfl (zh.ev rfl) (zh.ev rfl) zk) ?_
      refine WL.val (.bool true) rfl rfl rfl (fun za zC zh zk => wp_move rfl (zh.ev rfl) zk) ?_
      refine WL.skip (d := 31) rfl rfl rfl rfl rfl ?_
      refine WL.skip (d := 31) rfl rfl rfl rfl rfl ?_
      refine WL.val (.bool true) rfl rfl rfl (fun za zC zh zk => wp_pickT rfl (zh.ev rfl) (zh.ev rfl) zk) ?_
      refine WL.nil (WE.sub (K' := [(0, .slice pa sA.length ca), (1, .slice pb sB.length cb), (2, .slice pc sC.length cc), (3, .agg #[.int .i64 t.f, .slice a t.args.length c]), (7, .pointer (some ⟨g2, 0, none⟩)), (8, .bool false), (34, .bool true)]) ⟨rfl, rfl, rfl, rfl, rfl, rfl, rfl, trivial⟩ ?_)
      refine WE.next ?_
      refine WC.condT rfl rfl ?_
      refine WC.seq ?_
      refine WC.region ?_
      refine WL.call rfl rfl rfl (fun za zh zC => wp_call (by kernel_rfl) rfl (hv0)) (wakes_any _) ?_
      rintro _ w23 ⟨rfl, hq22⟩
      refine WL.val (.bool true) rfl rfl rfl (fun za zC zh zk => wp_assign rfl (zh.ev rfl) zk) ?_
      refine WL.nil (WE.sub (K' := [(0, .slice pa sA.length ca), (1, .slice pb sB.length cb), (2, .slice pc sC.length cc), (3, .agg #[.int .i64 t.f, .slice a t.args.length c]), (7, .pointer (some ⟨g2, 0, none⟩)), (8, .bool true), (34, .bool true)]) ⟨rfl, rfl, rfl, rfl, rfl, rfl, rfl, trivial⟩ ?_)
      refine WE.next ?_
      refine WC.ret ?_
      refine WE.thenRet ?_
      refine WE.ret1 rfl rfl ?_
      have hb24 : Below w.heap.size w w23 := (bstep (bstep hb19 hq17) hq22)
      exact ⟨_, rfl, rfl, hb24⟩
    · refine WL.sub (K' := [(0, .slice pa sA.length ca), (1, .slice pb sB.length cb), (2, .slice pc sC.length cc), (3, .agg #[.int .i64 t.f, .slice a t.args.length c]), (7, .pointer (some ⟨g2, 0, none⟩)), (8, .bool false), (21, .slice pa sA.length ca), (22, .bool bl8), (23, .bool false), (24, .slice pb sB.length cb), (25, .bool bl16), (26, .bool bl16), (27, .bool false)]) ⟨rfl, rfl, rfl, rfl, rfl, rfl, rfl, rfl, rfl, rfl, rfl, rfl, (by exact congrArg (fun z => some (Value.bool z)) h21), trivial⟩ ?_
      refine WL.want (d := 27) rfl rfl rfl ?_
      refine WL.val (.slice pc sC.length cc) rfl rfl rfl (fun za zC zh zk => wp_move rfl (zh.ev rfl) zk) ?_
      refine WL.want (d := 27) rfl rfl rfl ?_
      have hb28 : Below w.heap.size w w20 := (bstep hb19 hq17)
      refine WL.call rfl rfl rfl (fun za zh zC => wp_call (by kernel_rfl) rfl (hv2 (zh.ev rfl) (zh.ev rfl))) (large_any sC 30 _ _ _ (hC.below hb28)) ?_
      rintro _ w29 ⟨⟨bl25, rfl, hS27⟩, hq26⟩
      refine WL.val (.bool bl25) rfl rfl rfl (fun za zC zh zk => wp_pickF rfl (zh.ev rfl) (zh.ev rfl) zk) ?_
      refine WL.val (.bool bl25) rfl rfl rfl (fun za zC zh zk => wp_move rfl (zh.ev rfl) zk) ?_
      refine bool_split bl25 (fun h30 => ?_) (fun h30 => ?_)
      · refine WL.sub (K' := [(0, .slice pa sA.length ca), (1, .slice pb sB.length cb), (2, .slice pc sC.length cc), (3, .agg #[.int .i64 t.f, .slice a t.args.length c]), (7, .pointer (some ⟨g2, 0, none⟩)), (8, .bool false), (21, .slice pa sA.length ca), (22, .bool bl8), (23, .bool false), (24, .slice pb sB.length cb), (25, .bool bl16), (26, .bool bl16), (27, .bool false), (28, .slice pc sC.length cc), (29, .bool bl25), (30, .bool bl25), (31, .bool true)]) ⟨rfl, rfl, rfl, rfl, rfl, rfl, rfl, rfl, rfl, rfl, rfl, rfl, rfl, rfl, rfl, rfl, (by exact congrArg (fun z => some (Value.bool z)) h30), trivial⟩ ?_
        refine WL.skip (d := 31) rfl rfl rfl rfl rfl ?_
        refine WL.skip (d := 31) rfl rfl rfl rfl rfl ?_
        refine WL.val (.bool true) rfl rfl rfl (fun za zC zh zk => wp_pickT rfl (zh.ev rfl) (zh.ev rfl) zk) ?_
        refine WL.nil (WE.sub (K' := [(0, .slice pa sA.length ca), (1, .slice pb sB.length cb), (2, .slice pc sC.length cc), (3, .agg #[.int .i64 t.f, .slice a t.args.length c]), (7, .pointer (some ⟨g2, 0, none⟩)), (8, .bool false), (34, .bool true)]) ⟨rfl, rfl, rfl, rfl, rfl, rfl, rfl, trivial⟩ ?_)
        refine WE.next ?_
        refine WC.condT rfl rfl ?_
        refine WC.seq ?_
        refine WC.region ?_
        refine WL.call rfl rfl rfl (fun za zh zC => wp_call (by kernel_rfl) rfl (hv0)) (wakes_any _) ?_
        rintro _ w32 ⟨rfl, hq31⟩
        refine WL.val (.bool true) rfl rfl rfl (fun za zC zh zk => wp_assign rfl (zh.ev rfl) zk) ?_
        refine WL.nil (WE.sub (K' := [(0, .slice pa sA.length ca), (1, .slice pb sB.length cb), (2, .slice pc sC.length cc), (3, .agg #[.int .i64 t.f, .slice a t.args.length c]), (7, .pointer (some ⟨g2, 0, none⟩)), (8, .bool true), (34, .bool true)]) ⟨rfl, rfl, rfl, rfl, rfl, rfl, rfl, trivial⟩ ?_)
        refine WE.next ?_
        refine WC.ret ?_
        refine WE.thenRet ?_
        refine WE.ret1 rfl rfl ?_
        have hb33 : Below w.heap.size w w32 := (bstep (bstep hb28 hq26) hq31)
        exact ⟨_, rfl, rfl, hb33⟩
      · refine WL.sub (K' := [(0, .slice pa sA.length ca), (1, .slice pb sB.length cb), (2, .slice pc sC.length cc), (3, .agg #[.int .i64 t.f, .slice a t.args.length c]), (7, .pointer (some ⟨g2, 0, none⟩)), (8, .bool false), (21, .slice pa sA.length ca), (22, .bool bl8), (23, .bool false), (24, .slice pb sB.length cb), (25, .bool bl16), (26, .bool bl16), (27, .bool false), (28, .slice pc sC.length cc), (29, .bool bl25), (30, .bool bl25), (31, .bool false)]) ⟨rfl, rfl, rfl, rfl, rfl, rfl, rfl, rfl, rfl, rfl, rfl, rfl, rfl, rfl, rfl, rfl, (by exact congrArg (fun z => some (Value.bool z)) h30), trivial⟩ ?_
        refine WL.want (d := 31) rfl rfl rfl ?_
        have hb35 : Below w1.heap.size w1 w29 := (bstep (bstep hq9 hq17) hq26)
        have hB34 := hB4.below hb35
        refine WL.val (.agg #[.int .i64 t.f, .slice a t.args.length c]) rfl rfl rfl (fun za zC zh zk => ld_32 rfl (zh.ev rfl) ((hB34.cell 0).trans rfl) ((hB34.cell 1).trans rfl) zk) ?_
        refine WL.want (d := 31) rfl rfl rfl ?_
        have hb36 : Below w.heap.size w w29 := (bstep hb5 hb35)
        refine WL.call rfl rfl rfl (fun za zh zC => wp_call (by kernel_rfl) rfl (hv2 (zh.ev rfl) (zh.ev rfl))) (great_any t 30 _ _ hz (IsT.below hb36 hvt)) ?_
        rintro _ w38 ⟨rfl, hq37⟩
        refine WL.val (.bool ((decide ((30 : Int) < (t.size : Int))))) rfl rfl rfl (fun za zC zh zk => wp_pickF rfl (zh.ev rfl) (zh.ev rfl) zk) ?_
        refine WL.nil (WE.sub (K' := [(0, .slice pa sA.length ca), (1, .slice pb sB.length cb), (2, .slice pc sC.length cc), (3, .agg #[.int .i64 t.f, .slice a t.args.length c]), (7, .pointer (some ⟨g2, 0, none⟩)), (8, .bool false), (34, .bool ((decide ((30 : Int) < (t.size : Int)))))]) ⟨rfl, rfl, rfl, rfl, rfl, rfl, rfl, trivial⟩ ?_)
        refine WE.next ?_
        refine WC.cond rfl (fun h39 => ?_) (fun h39 => ?_)
        · have h39 : (30 : Int) < (t.size : Int) := by simpa using h39
          refine WC.seq ?_
          refine WC.region ?_
          refine WL.call rfl rfl rfl (fun za zh zC => wp_call (by kernel_rfl) rfl (hv0)) (wakes_any _) ?_
          rintro _ w41 ⟨rfl, hq40⟩
          refine WL.val (.bool true) rfl rfl rfl (fun za zC zh zk => wp_assign rfl (zh.ev rfl) zk) ?_
          refine WL.nil (WE.sub (K' := [(0, .slice pa sA.length ca), (1, .slice pb sB.length cb), (2, .slice pc sC.length cc), (3, .agg #[.int .i64 t.f, .slice a t.args.length c]), (7, .pointer (some ⟨g2, 0, none⟩)), (8, .bool true), (34, .bool ((decide ((30 : Int) < (t.size : Int)))))]) ⟨rfl, rfl, rfl, rfl, rfl, rfl, rfl, trivial⟩ ?_)
          refine WE.next ?_
          refine WC.ret ?_
          refine WE.thenRet ?_
          refine WE.ret1 rfl rfl ?_
          have hb42 : Below w.heap.size w w41 := (bstep (bstep hb36 hq37) hq40)
          exact ⟨_, rfl, rfl, hb42⟩
        · have h39 : ¬ ((30 : Int) < (t.size : Int)) := by simpa using h39
          refine WC.skip ?_
          refine WE.next ?_
          refine WC.seq ?_
          refine WC.region ?_
          refine WL.val (.slice pa sA.length ca) rfl rfl rfl (fun za zC zh zk => wp_move rfl (zh.ev rfl) zk) ?_
          refine WL.val (.slice pb sB.length cb) rfl rfl rfl (fun za zC zh zk => wp_move rfl (zh.ev rfl) zk) ?_
          have hSA := hS10 h12
          have hzA := Small.sz (m := 30) hSA
          have hSB := hS18 h21
          have hzB := Small.sz (m := 30) hSB
          have hSC := hS27 h30
          have hzC := Small.sz (m := 30) hSC
          have ht30 : t.size ≤ 30 := by have z := h39; omega
          have hnA := hSA.1
          have hnB := hSB.1
          have hnC := hSC.1
          have hb44 : Below w.heap.size w w38 := (bstep hb36 hq37)
          refine WL.call rfl rfl rfl (fun za zh zC => wp_call (by kernel_rfl) rfl (hv2 (zh.ev rfl) (zh.ev rfl))) (compNo (compose_any sA sB _ _ _ _ _ (hA.below hb44) (hB.below hb44) hla hlb) hno) ?_
          rintro _ w45 ⟨rfl, hq43⟩
          refine WL.val (.tuple #[.slice none 0 0, .int .i64 2]) rfl rfl rfl (fun za zC zh zk => wp_move rfl (zh.ev rfl) zk) ?_
          refine WL.val (.slice none 0 0) rfl rfl rfl (fun za zC zh zk => ext2_0 rfl (zh.ev rfl) zk) ?_
          refine WL.val (.int .i64 2) rfl rfl rfl (fun za zC zh zk => ext2_1 rfl (zh.ev rfl) zk) ?_
          refine WL.val (.slice none 0 0) rfl rfl rfl (fun za zC zh zk => wp_assign rfl (zh.ev rfl) zk) ?_
          refine WL.val (.int .i64 2) rfl rfl rfl (fun za zC zh zk => wp_assign rfl (zh.ev rfl) zk) ?_
          refine WL.nil (WE.sub (K' := [(0, .slice pa sA.length ca), (1, .slice pb sB.length cb), (2, .slice pc sC.length cc), (3, .agg #[.int .i64 t.f, .slice a t.args.length c]), (7, .pointer (some ⟨g2, 0, none⟩)), (8, .bool false), (9, .slice none 0 0), (10, .int .i64 2), (34, .bool ((decide ((30 : Int) < (t.size : Int)))))]) ⟨rfl, rfl, rfl, rfl, rfl, rfl, rfl, rfl, rfl, trivial⟩ ?_)
          refine WE.next ?_
          refine WC.seq ?_
          refine WC.region ?_
          refine WL.val (.slice pb sB.length cb) rfl rfl rfl (fun za zC zh zk => wp_move rfl (zh.ev rfl) zk) ?_
          refine WL.val (.slice pc sC.length cc) rfl rfl rfl (fun za zC zh zk => wp_move rfl (zh.ev rfl) zk) ?_
          have hb47 : Below w.heap.size w w45 := (bstep hb44 hq43)
          refine WL.call rfl rfl rfl (fun za zh zC => wp_call (by kernel_rfl) rfl (hv2 (zh.ev rfl) (zh.ev rfl))) (compAny (compose_any sB sC _ _ _ _ _ (hB.below hb47) (hC.below hb47) hlb hlc)) ?_
          rintro _ w48 ⟨⟨zp, zn, zc0, ze, rfl⟩, hq46⟩
          refine WL.val (.tuple #[.slice zp zn zc0, .int .i64 ze]) rfl rfl rfl (fun za zC zh zk => wp_move rfl (zh.ev rfl) zk) ?_
          refine WL.val (.slice zp zn zc0) rfl rfl rfl (fun za zC zh zk => ext2_0 rfl (zh.ev rfl) zk) ?_
          refine WL.val (.int .i64 ze) rfl rfl rfl (fun za zC zh zk => ext2_1 rfl (zh.ev rfl) zk) ?_
          refine WL.val (.slice zp zn zc0) rfl rfl rfl (fun za zC zh zk => wp_assign rfl (zh.ev rfl) zk) ?_
          refine WL.val (.int .i64 ze) rfl rfl rfl (fun za zC zh zk => wp_assign rfl (zh.ev rfl) zk) ?_
          refine WL.nil (WE.sub (K' := [(0, .slice pa sA.length ca), (1, .slice pb sB.length cb), (2, .slice pc sC.length cc), (3, .agg #[.int .i64 t.f, .slice a t.args.length c]), (7, .pointer (some ⟨g2, 0, none⟩)), (8, .bool false), (9, .slice none 0 0), (10, .int .i64 2), (11, .slice zp zn zc0), (12, .int .i64 ze), (34, .bool ((decide ((30 : Int) < (t.size : Int)))))]) ⟨rfl, rfl, rfl, rfl, rfl, rfl, rfl, rfl, rfl, rfl, rfl, trivial⟩ ?_)
          refine WE.next ?_
          refine WC.seq ?_
          refine WC.seq ?_
          refine WC.region ?_
          refine WL.val (.int .i64 2) rfl rfl rfl (fun za zC zh zk => wp_move rfl (zh.ev rfl) zk) ?_
          refine WL.val (.bool true) rfl rfl rfl (fun za zC zh zk => neq_26 rfl (zh.ev rfl) (zh.ev rfl) zk) ?_
          refine WL.val (.bool true) rfl rfl rfl (fun za zC zh zk => wp_move rfl (zh.ev rfl) zk) ?_
          refine WL.skip (d := 50) rfl rfl rfl rfl rfl ?_
          refine WL.skip (d := 50) rfl rfl rfl rfl rfl ?_
          refine WL.val (.bool true) rfl rfl rfl (fun za zC zh zk => wp_pickT rfl (zh.ev rfl) (zh.ev rfl) zk) ?_
          refine WL.nil (WE.sub (K' := [(0, .slice pa sA.length ca), (1, .slice pb sB.length cb), (2, .slice pc sC.length cc), (3, .agg #[.int .i64 t.f, .slice a t.args.length c]), (7, .pointer (some ⟨g2, 0, none⟩)), (8, .bool false), (9, .slice none 0 0), (10, .int .i64 2), (11, .slice zp zn zc0), (12, .int .i64 ze), (34, .bool ((decide ((30 : Int) < (t.size : Int))))), (53, .bool true)]) ⟨rfl, rfl, rfl, rfl, rfl, rfl, rfl, rfl, rfl, rfl, rfl, rfl, trivial⟩ ?_)
          refine WE.next ?_
          refine WC.condT rfl rfl ?_
          refine WC.seq ?_
          refine WC.region ?_
          refine WL.call rfl rfl rfl (fun za zh zC => wp_call (by kernel_rfl) rfl (hv0)) (wakes_any _) ?_
          rintro _ w50 ⟨rfl, hq49⟩
          refine WL.val (.bool true) rfl rfl rfl (fun za zC zh zk => wp_assign rfl (zh.ev rfl) zk) ?_
          refine WL.nil (WE.sub (K' := [(0, .slice pa sA.length ca), (1, .slice pb sB.length cb), (2, .slice pc sC.length cc), (3, .agg #[.int .i64 t.f, .slice a t.args.length c]), (7, .pointer (some ⟨g2, 0, none⟩)), (8, .bool true), (9, .slice none 0 0), (10, .int .i64 2), (11, .slice zp zn zc0), (12, .int .i64 ze), (34, .bool ((decide ((30 : Int) < (t.size : Int))))), (53, .bool true)]) ⟨rfl, rfl, rfl, rfl, rfl, rfl, rfl, rfl, rfl, rfl, rfl, rfl, trivial⟩ ?_)
          refine WE.next ?_
          refine WC.ret ?_
          refine WE.thenRet ?_
          refine WE.ret1 rfl rfl ?_
          have hb51 : Below w.heap.size w w50 := (bstep (bstep hb47 hq46) hq49)
          exact ⟨_, rfl, rfl, hb51⟩

set_option maxRecDepth 100000 in
theorem twice_no2 (sA sB sC : List Bd) (t : T) (w : World) (pa pb pc : Option Addr) (ca cb cc : Nat) (v : Value) (hA : IsSub w sA pa ca) (hB : IsSub w sB pb cb) (hC : IsSub w sC pc cc) (hla : sA.length ≤ 1048576) (hlb : sB.length ≤ 1048576) (hlc : sC.length ≤ 1048576) (hz : t.size ≤ 4294967296) (hv : IsT w t v) (okA : subOk (-1) sA = true) (okB : subOk (-1) sB = true) (hno : ¬ subOk (-1) sC = true) : Calls Try.prog 4 #[.slice pa sA.length ca, .slice pb sB.length cb, .slice pc sC.length cc, v] w (Ret fun v' w' => v' = .bool true ∧ Below w.heap.size w w') := by
  have hvt := hv
  obtain ⟨hf, a, c, rfl, hc, hmx, hl⟩ := hv.form
  refine Calls.walk (l := [.slice pa sA.length ca, .slice pb sB.length cb, .slice pc sC.length cc, .agg #[.int .i64 t.f, .slice a t.args.length c]]) Try.func4 rfl (by kernel_rfl) ?_
  refine WC.sub (K' := [(0, .slice pa sA.length ca), (1, .slice pb sB.length cb), (2, .slice pc sC.length cc), (3, .agg #[.int .i64 t.f, .slice a t.args.length c])]) ⟨rfl, rfl, rfl, rfl, trivial⟩ ?_
  refine WC.seq ?_
  refine WC.region ?_
  refine WL.step (post := NewBlk w 32 #[.int .i64 t.f, .slice a t.args.length c]) rfl rfl rfl (fun za zC zh zk => box_32 rfl (zh.ev rfl) (zk _ _ (newBlk _ _ _))) ?_
  rintro _ w1 ⟨g2, rfl, hg3, hB4, hb5, hz6⟩
  have hl7 : w.heap.size ≤ g2 := by omega
  refine WL.val (.bool false) rfl rfl rfl (fun za zC zh zk => wp_assign rfl (zh.ev rfl) zk) ?_
  refine WL.nil (WE.sub (K' := [(0, .slice pa sA.length ca), (1, .slice pb sB.length cb), (2, .slice pc sC.length cc), (3, .agg #[.int .i64 t.f, .slice a t.args.length c]), (7, .pointer (some ⟨g2, 0, none⟩)), (8, .bool false)]) ⟨rfl, rfl, rfl, rfl, rfl, rfl, trivial⟩ ?_)
  refine WE.next ?_
  refine WC.seq ?_
  refine WC.seq ?_
  refine WC.region ?_
  refine WL.val (.slice pa sA.length ca) rfl rfl rfl (fun za zC zh zk => wp_move rfl (zh.ev rfl) zk) ?_
  refine WL.call rfl rfl rfl (fun za zh zC => wp_call (by kernel_rfl) rfl (hv2 (zh.ev rfl) (zh.ev rfl))) (large_any sA 30 _ _ _ (hA.below hb5)) ?_
  rintro _ w11 ⟨⟨bl8, rfl, hS10⟩, hq9⟩
  refine WL.val (.bool bl8) rfl rfl rfl (fun za zC zh zk => wp_move rfl (zh.ev rfl) zk) ?_
  refine bool_split bl8 (fun h12 => ?_) (fun h12 => ?_)
  · refine WL.sub (K' := [(0, .slice pa sA.length ca), (1, .slice pb sB.length cb), (2, .slice pc sC.length cc), (3, .agg #[.int .i64 t.f, .slice a t.args.length c]), (7, .pointer (some ⟨g2, 0, none⟩)), (8, .bool false), (21, .slice pa sA.length ca), (22, .bool bl8), (23, .bool true)]) ⟨rfl, rfl, rfl, rfl, rfl, rfl, rfl, rfl, (by exact congrArg (fun z => some (Value.bool z)) h12), trivial⟩ ?_
    refine WL.skip (d := 23) rfl rfl rfl rfl rfl ?_
    refine WL.skip (d := 23) rfl rfl rfl rfl rfl ?_
    refine WL.val (.bool true) rfl rfl rfl (fun za zC zh zk => wp_pickT rfl (zh.ev rfl) (zh.ev rfl) zk) ?_
    refine WL.val (.bool true) rfl rfl rfl (fun za zC zh zk => wp_move rfl (zh.ev rfl) zk) ?_
    refine WL.skip (d := 27) rfl rfl rfl rfl rfl ?_
    refine WL.skip (d := 27) rfl rfl rfl rfl rfl ?_
    refine WL.val (.bool true) rfl rfl rfl (fun za zC zh zk => wp_pickT rfl (zh.ev rfl) (zh.ev rfl) zk) ?_
    refine WL.val (.bool true) rfl rfl rfl (fun za zC zh zk => wp_move rfl (zh.ev rfl) zk) ?_
    refine WL.skip (d := 31) rfl rfl rfl rfl rfl ?_
    refine WL.skip (d := 31) rfl rfl rfl rfl rfl ?_
    refine WL.val (.bool true) rfl rfl rfl (fun za zC zh zk => wp_pickT rfl (zh.ev rfl) (zh.ev rfl) zk) ?_
    refine WL.nil (WE.sub (K' := [(0, .slice pa sA.length ca), (1, .slice pb sB.length cb), (2, .slice pc sC.length cc), (3, .agg #[.int .i64 t.f, .slice a t.args.length c]), (7, .pointer (some ⟨g2, 0, none⟩)), (8, .bool false), (34, .bool true)]) ⟨rfl, rfl, rfl, rfl, rfl, rfl, rfl, trivial⟩ ?_)
    refine WE.next ?_
    refine WC.condT rfl rfl ?_
    refine WC.seq ?_
    refine WC.region ?_
    refine WL.call rfl rfl rfl (fun za zh zC => wp_call (by kernel_rfl) rfl (hv0)) (wakes_any _) ?_
    rintro _ w14 ⟨rfl, hq13⟩
    refine WL.val (.bool true) rfl rfl rfl (fun za zC zh zk => wp_assign rfl (zh.ev rfl) zk) ?_
    refine WL.nil (WE.sub (K' := [(0, .slice pa sA.length ca), (1, .slice pb sB.length cb), (2, .slice pc sC.length cc), (3, .agg #[.int .i64 t.f, .slice a t.args.length c]), (7, .pointer (some ⟨g2, 0, none⟩)), (8, .bool true), (34, .bool true)]) ⟨rfl, rfl, rfl, rfl, rfl, rfl, rfl, trivial⟩ ?_)
    refine WE.next ?_
    refine WC.ret ?_
    refine WE.thenRet ?_
    refine WE.ret1 rfl rfl ?_
    have hb15 : Below w.heap.size w w14 := (bstep (bstep hb5 hq9) hq13)
    exact ⟨_, rfl, rfl, hb15⟩
  · refine WL.sub (K' := [(0, .slice pa sA.length ca), (1, .slice pb sB.length cb), (2, .slice pc sC.length cc), (3, .agg #[.int .i64 t.f, .slice a t.args.length c]), (7, .pointer (some ⟨g2, 0, none⟩)), (8, .bool false), (21, .slice pa sA.length ca), (22, .bool bl8), (23, .bool false)]) ⟨rfl, rfl, rfl, rfl, rfl, rfl, rfl, rfl, (by exact congrArg (fun z => some (Value.bool z)) h12), trivial⟩ ?_
    refine WL.want (d := 23) rfl rfl rfl ?_
    refine WL.val (.slice pb sB.length cb) rfl rfl rfl (fun za zC zh zk => wp_move rfl (zh.ev rfl) zk) ?_
    refine WL.want (d := 23) rfl rfl rfl ?_
    have hb19 : Below w.heap.size w w11 := (bstep hb5 hq9)
    refine WL.call rfl rfl rfl (fun za zh zC => wp_call (by kernel_rfl) rfl (hv2 (zh.ev rfl) (zh.ev rfl))) (large_any sB 30 _ _ _ (hB.below hb19)) ?_
    rintro _ w20 ⟨⟨bl16, rfl, hS18⟩, hq17⟩
    refine WL.val (.bool bl16) rfl rfl rfl (fun za zC zh zk => wp_pickF rfl (zh.ev rfl) (zh.ev rfl) zk) ?_
    refine WL.val (.bool bl16) rfl rfl rfl (fun za zC zh zk => wp_move rfl (zh.ev rfl) zk) ?_
    refine bool_split bl16 (fun h21 => ?_) (fun h21 => ?_)
    · refine WL.sub (K' := [(0, .slice pa sA.length ca), (1, .slice pb sB.length cb), (2, .slice pc sC.length cc), (3, .agg #[.int .i64 t.f, .slice a t.args.length c]), (7, .pointer (some ⟨g2, 0, none⟩)), (8, .bool false), (21, .slice pa sA.length ca), (22, .bool bl8), (23, .bool false), (24, .slice pb sB.length cb), (25, .bool bl16), (26, .bool bl16), (27, .bool true)]) ⟨rfl, rfl, rfl, rfl, rfl, rfl, rfl, rfl, rfl, rfl, rfl, rfl, (by exact congrArg (fun z => some (Value.bool z)) h21), trivial⟩ ?_
      refine WL.skip (d := 27) rfl rfl rfl rfl rfl ?_
      refine WL.skip (d := 27) rfl rfl rfl rfl rfl ?_
      refine WL.val (.bool true) rfl rfl rfl (fun za zC zh zk => wp_pickT rfl (zh.ev rfl) (zh.ev rfl) zk) ?_
      refine WL.val (.bool true) rfl rfl rfl (fun za zC zh zk => wp_move rfl (zh.ev rfl) zk) ?_
      refine WL.skip (d := 31) rfl rfl rfl rfl rfl ?_
      refine WL.skip (d := 31) rfl rfl rfl rfl rfl ?_
      refine WL.val (.bool true) rfl rfl rfl (fun za zC zh zk => wp_pickT rfl (zh.ev rfl) (zh.ev rfl) zk) ?_
      refine WL.nil (WE.sub (K' := [(0, .slice pa sA.length ca), (1, .slice pb sB.length cb), (2, .slice pc sC.length cc), (3, .agg #[.int .i64 t.f, .slice a t.args.length c]), (7, .pointer (some ⟨g2, 0, none⟩)), (8, .bool false), (34, .bool true)]) ⟨rfl, rfl, rfl, rfl, rfl, rfl, rfl, trivial⟩ ?_)
      refine WE.next ?_
      refine WC.condT rfl rfl ?_
      refine WC.seq ?_
      refine WC.region ?_
      refine WL.call rfl rfl rfl (fun za zh zC => wp_call (by kernel_rfl) rfl (hv0)) (wakes_any _) ?_
      rintro _ w23 ⟨rfl, hq22⟩
      refine WL.val (.bool true) rfl rfl rfl (fun za zC zh zk => wp_assign rfl (zh.ev rfl) zk) ?_
      refine WL.nil (WE.sub (K' := [(0, .slice pa sA.length ca), (1, .slice pb sB.length cb), (2, .slice pc sC.length cc), (3, .agg #[.int .i64 t.f, .slice a t.args.length c]), (7, .pointer (some ⟨g2, 0, none⟩)), (8, .bool true), (34, .bool true)]) ⟨rfl, rfl, rfl, rfl, rfl, rfl, rfl, trivial⟩ ?_)
      refine WE.next ?_
      refine WC.ret ?_
      refine WE.thenRet ?_
      refine WE.ret1 rfl rfl ?_
      have hb24 : Below w.heap.size w w23 := (bstep (bstep hb19 hq17) hq22)
      exact ⟨_, rfl, rfl, hb24⟩
    · refine WL.sub (K' := [(0, .slice pa sA.length ca), (1, .slice pb sB.length cb), (2, .slice pc sC.length cc), (3, .agg #[.int .i64 t.f, .slice a t.args.length c]), (7, .pointer (some ⟨g2, 0, none⟩)), (8, .bool false), (21, .slice pa sA.length ca), (22, .bool bl8), (23, .bool false), (24, .slice pb sB.length cb), (25, .bool bl16), (26, .bool bl16), (27, .bool false)]) ⟨rfl, rfl, rfl, rfl, rfl, rfl, rfl, rfl, rfl, rfl, rfl, rfl, (by exact congrArg (fun z => some (Value.bool z)) h21), trivial⟩ ?_
      refine WL.want (d := 27) rfl rfl rfl ?_
      refine WL.val (.slice pc sC.length cc) rfl rfl rfl (fun za zC zh zk => wp_move rfl (zh.ev rfl) zk) ?_
      refine WL.want (d := 27) rfl rfl rfl ?_
      have hb28 : Below w.heap.size w w20 := (bstep hb19 hq17)
      refine WL.call rfl rfl rfl (fun za zh zC => wp_call (by kernel_rfl) rfl (hv2 (zh.ev rfl) (zh.ev rfl))) (large_any sC 30 _ _ _ (hC.below hb28)) ?_
      rintro _ w29 ⟨⟨bl25, rfl, hS27⟩, hq26⟩
      refine WL.val (.bool bl25) rfl rfl rfl (fun za zC zh zk => wp_pickF rfl (zh.ev rfl) (zh.ev rfl) zk) ?_
      refine WL.val (.bool bl25) rfl rfl rfl (fun za zC zh zk => wp_move rfl (zh.ev rfl) zk) ?_
      refine bool_split bl25 (fun h30 => ?_) (fun h30 => ?_)
      · refine WL.sub (K' := [(0, .slice pa sA.length ca), (1, .slice pb sB.length cb), (2, .slice pc sC.length cc), (3, .agg #[.int .i64 t.f, .slice a t.args.length c]), (7, .pointer (some ⟨g2, 0, none⟩)), (8, .bool false), (21, .slice pa sA.length ca), (22, .bool bl8), (23, .bool false), (24, .slice pb sB.length cb), (25, .bool bl16), (26, .bool bl16), (27, .bool false), (28, .slice pc sC.length cc), (29, .bool bl25), (30, .bool bl25), (31, .bool true)]) ⟨rfl, rfl, rfl, rfl, rfl, rfl, rfl, rfl, rfl, rfl, rfl, rfl, rfl, rfl, rfl, rfl, (by exact congrArg (fun z => some (Value.bool z)) h30), trivial⟩ ?_
        refine WL.skip (d := 31) rfl rfl rfl rfl rfl ?_
        refine WL.skip (d := 31) rfl rfl rfl rfl rfl ?_
        refine WL.val (.bool true) rfl rfl rfl (fun za zC zh zk => wp_pickT rfl (zh.ev rfl) (zh.ev rfl) zk) ?_
        refine WL.nil (WE.sub (K' := [(0, .slice pa sA.length ca), (1, .slice pb sB.length cb), (2, .slice pc sC.length cc), (3, .agg #[.int .i64 t.f, .slice a t.args.length c]), (7, .pointer (some ⟨g2, 0, none⟩)), (8, .bool false), (34, .bool true)]) ⟨rfl, rfl, rfl, rfl, rfl, rfl, rfl, trivial⟩ ?_)
        refine WE.next ?_
        refine WC.condT rfl rfl ?_
        refine WC.seq ?_
        refine WC.region ?_
        refine WL.call rfl rfl rfl (fun za zh zC => wp_call (by kernel_rfl) rfl (hv0)) (wakes_any _) ?_
        rintro _ w32 ⟨rfl, hq31⟩
        refine WL.val (.bool true) rfl rfl rfl (fun za zC zh zk => wp_assign rfl (zh.ev rfl) zk) ?_
        refine WL.nil (WE.sub (K' := [(0, .slice pa sA.length ca), (1, .slice pb sB.length cb), (2, .slice pc sC.length cc), (3, .agg #[.int .i64 t.f, .slice a t.args.length c]), (7, .pointer (some ⟨g2, 0, none⟩)), (8, .bool true), (34, .bool true)]) ⟨rfl, rfl, rfl, rfl, rfl, rfl, rfl, trivial⟩ ?_)
        refine WE.next ?_
        refine WC.ret ?_
        refine WE.thenRet ?_
        refine WE.ret1 rfl rfl ?_
        have hb33 : Below w.heap.size w w32 := (bstep (bstep hb28 hq26) hq31)
        exact ⟨_, rfl, rfl, hb33⟩
      · refine WL.sub (K' := [(0, .slice pa sA.length ca), (1, .slice pb sB.length cb), (2, .slice pc sC.length cc), (3, .agg #[.int .i64 t.f, .slice a t.args.length c]), (7, .pointer (some ⟨g2, 0, none⟩)), (8, .bool false), (21, .slice pa sA.length ca), (22, .bool bl8), (23, .bool false), (24, .slice pb sB.length cb), (25, .bool bl16), (26, .bool bl16), (27, .bool false), (28, .slice pc sC.length cc), (29, .bool bl25), (30, .bool bl25), (31, .bool false)]) ⟨rfl, rfl, rfl, rfl, rfl, rfl, rfl, rfl, rfl, rfl, rfl, rfl, rfl, rfl, rfl, rfl, (by exact congrArg (fun z => some (Value.bool z)) h30), trivial⟩ ?_
        refine WL.want (d := 31) rfl rfl rfl ?_
        have hb35 : Below w1.heap.size w1 w29 := (bstep (bstep hq9 hq17) hq26)
        have hB34 := hB4.below hb35
        refine WL.val (.agg #[.int .i64 t.f, .slice a t.args.length c]) rfl rfl rfl (fun za zC zh zk => ld_32 rfl (zh.ev rfl) ((hB34.cell 0).trans rfl) ((hB34.cell 1).trans rfl) zk) ?_
        refine WL.want (d := 31) rfl rfl rfl ?_
        have hb36 : Below w.heap.size w w29 := (bstep hb5 hb35)
        refine WL.call rfl rfl rfl (fun za zh zC => wp_call (by kernel_rfl) rfl (hv2 (zh.ev rfl) (zh.ev rfl))) (great_any t 30 _ _ hz (IsT.below hb36 hvt)) ?_
        rintro _ w38 ⟨rfl, hq37⟩
        refine WL.val (.bool ((decide ((30 : Int) < (t.size : Int))))) rfl rfl rfl (fun za zC zh zk => wp_pickF rfl (zh.ev rfl) (zh.ev rfl) zk) ?_
        refine WL.nil (WE.sub (K' := [(0, .slice pa sA.length ca), (1, .slice pb sB.length cb), (2, .slice pc sC.length cc), (3, .agg #[.int .i64 t.f, .slice a t.args.length c]), (7, .pointer (some ⟨g2, 0, none⟩)), (8, .bool false), (34, .bool ((decide ((30 : Int) < (t.size : Int)))))]) ⟨rfl, rfl, rfl, rfl, rfl, rfl, rfl, trivial⟩ ?_)
        refine WE.next ?_
        refine WC.cond rfl (fun h39 => ?_) (fun h39 => ?_)
        · have h39 : (30 : Int) < (t.size : Int) := by simpa using h39
          refine WC.seq ?_
          refine WC.region ?_
          refine WL.call rfl rfl rfl (fun za zh zC => wp_call (by kernel_rfl) rfl (hv0)) (wakes_any _) ?_
          rintro _ w41 ⟨rfl, hq40⟩
          refine WL.val (.bool true) rfl rfl rfl (fun za zC zh zk => wp_assign rfl (zh.ev rfl) zk) ?_
          refine WL.nil (WE.sub (K' := [(0, .slice pa sA.length ca), (1, .slice pb sB.length cb), (2, .slice pc sC.length cc), (3, .agg #[.int .i64 t.f, .slice a t.args.length c]), (7, .pointer (some ⟨g2, 0, none⟩)), (8, .bool true), (34, .bool ((decide ((30 : Int) < (t.size : Int)))))]) ⟨rfl, rfl, rfl, rfl, rfl, rfl, rfl, trivial⟩ ?_)
          refine WE.next ?_
          refine WC.ret ?_
          refine WE.thenRet ?_
          refine WE.ret1 rfl rfl ?_
          have hb42 : Below w.heap.size w w41 := (bstep (bstep hb36 hq37) hq40)
          exact ⟨_, rfl, rfl, hb42⟩
        · have h39 : ¬ ((30 : Int) < (t.size : Int)) := by simpa using h39
          refine WC.skip ?_
          refine WE.next ?_
          refine WC.seq ?_
          refine WC.region ?_
          refine WL.val (.slice pa sA.length ca) rfl rfl rfl (fun za zC zh zk => wp_move rfl (zh.ev rfl) zk) ?_
          refine WL.val (.slice pb sB.length cb) rfl rfl rfl (fun za zC zh zk => wp_move rfl (zh.ev rfl) zk) ?_
          have hSA := hS10 h12
          have hzA := Small.sz (m := 30) hSA
          have hSB := hS18 h21
          have hzB := Small.sz (m := 30) hSB
          have hSC := hS27 h30
          have hzC := Small.sz (m := 30) hSC
          have ht30 : t.size ≤ 30 := by have z := h39; omega
          have hnA := hSA.1
          have hnB := hSB.1
          have hnC := hSC.1
          have hb44 : Below w.heap.size w w38 := (bstep hb36 hq37)
          refine WL.call rfl rfl rfl (fun za zh zC => wp_call (by kernel_rfl) rfl (hv2 (zh.ev rfl) (zh.ev rfl))) (compYes (compose_any sA sB _ _ _ _ _ (hA.below hb44) (hB.below hb44) hla hlb) ⟨okA, okB⟩) ?_
          rintro _ w45 ⟨⟨R1, p1, c1, rfl, hR1, hN1⟩, hq43⟩
          have hzR1 := comp_size hR1 (M := 30) (N := 30) (by decide) hzB hzA (by decide)
          have hnR1 : R1.length ≤ (60 + 60) := by have z := hzR1.1; (try simp only [List.length_nil] at z); omega
          have hIR1 := hN1.isSub hnR1 (by decide) hzR1.2 (by decide)
          have okR1 := comp_ok okA okB hR1
          refine WL.val (.tuple #[.slice p1 R1.length c1, .int .i64 0]) rfl rfl rfl (fun za zC zh zk => wp_move rfl (zh.ev rfl) zk) ?_
          refine WL.val (.slice p1 R1.length c1) rfl rfl rfl (fun za zC zh zk => ext2_0 rfl (zh.ev rfl) zk) ?_
          refine WL.val (.int .i64 0) rfl rfl rfl (fun za zC zh zk => ext2_1 rfl (zh.ev rfl) zk) ?_
          refine WL.val (.slice p1 R1.length c1) rfl rfl rfl (fun za zC zh zk => wp_assign rfl (zh.ev rfl) zk) ?_
          refine WL.val (.int .i64 0) rfl rfl rfl (fun za zC zh zk => wp_assign rfl (zh.ev rfl) zk) ?_
          refine WL.nil (WE.sub (K' := [(0, .slice pa sA.length ca), (1, .slice pb sB.length cb), (2, .slice pc sC.length cc), (3, .agg #[.int .i64 t.f, .slice a t.args.length c]), (7, .pointer (some ⟨g2, 0, none⟩)), (8, .bool false), (9, .slice p1 R1.length c1), (10, .int .i64 0), (34, .bool ((decide ((30 : Int) < (t.size : Int)))))]) ⟨rfl, rfl, rfl, rfl, rfl, rfl, rfl, rfl, rfl, trivial⟩ ?_)
          refine WE.next ?_
          refine WC.seq ?_
          refine WC.region ?_
          refine WL.val (.slice pb sB.length cb) rfl rfl rfl (fun za zC zh zk => wp_move rfl (zh.ev rfl) zk) ?_
          refine WL.val (.slice pc sC.length cc) rfl rfl rfl (fun za zC zh zk => wp_move rfl (zh.ev rfl) zk) ?_
          have hb47 : Below w.heap.size w w45 := (bstep hb44 hq43)
          refine WL.call rfl rfl rfl (fun za zh zC => wp_call (by kernel_rfl) rfl (hv2 (zh.ev rfl) (zh.ev rfl))) (compNo (compose_any sB sC _ _ _ _ _ (hB.below hb47) (hC.below hb47) hlb hlc) (fun hh => hno hh.2)) ?_
          rintro _ w48 ⟨rfl, hq46⟩
          refine WL.val (.tuple #[.slice none 0 0, .int .i64 2]) rfl rfl rfl (fun za zC zh zk => wp_move rfl (zh.ev rfl) zk) ?_
          refine WL.val (.slice none 0 0) rfl rfl rfl (fun za zC zh zk => ext2_0 rfl (zh.ev rfl) zk) ?_
          refine WL.val (.int .i64 2) rfl rfl rfl (fun za zC zh zk => ext2_1 rfl (zh.ev rfl) zk) ?_
          refine WL.val (.slice none 0 0) rfl rfl rfl (fun za zC zh zk => wp_assign rfl (zh.ev rfl) zk) ?_
          refine WL.val (.int .i64 2) rfl rfl rfl (fun za zC zh zk => wp_assign rfl (zh.ev rfl) zk) ?_
          refine WL.nil (WE.sub (K' := [(0, .slice pa sA.length ca), (1, .slice pb sB.length cb), (2, .slice pc sC.length cc), (3, .agg #[.int .i64 t.f, .slice a t.args.length c]), (7, .pointer (some ⟨g2, 0, none⟩)), (8, .bool false), (9, .slice p1 R1.length c1), (10, .int .i64 0), (11, .slice none 0 0), (12, .int .i64 2), (34, .bool ((decide ((30 : Int) < (t.size : Int)))))]) ⟨rfl, rfl, rfl, rfl, rfl, rfl, rfl, rfl, rfl, rfl, rfl, trivial⟩ ?_)
          refine WE.next ?_
          refine WC.seq ?_
          refine WC.seq ?_
          refine WC.region ?_
          refine WL.val (.int .i64 0) rfl rfl rfl (fun za zC zh zk => wp_move rfl (zh.ev rfl) zk) ?_
          refine WL.val (.bool false) rfl rfl rfl (fun za zC zh zk => neq_26 rfl (zh.ev rfl) (zh.ev rfl) zk) ?_
          refine WL.val (.bool false) rfl rfl rfl (fun za zC zh zk => wp_move rfl (zh.ev rfl) zk) ?_
          refine WL.want (d := 50) rfl rfl rfl ?_
          refine WL.val (.int .i64 2) rfl rfl rfl (fun za zC zh zk => wp_move rfl (zh.ev rfl) zk) ?_
          refine WL.want (d := 50) rfl rfl rfl ?_
          refine WL.val (.bool true) rfl rfl rfl (fun za zC zh zk => neq_26 rfl (zh.ev rfl) (zh.ev rfl) zk) ?_
          refine WL.val (.bool true) rfl rfl rfl (fun za zC zh zk => wp_pickF rfl (zh.ev rfl) (zh.ev rfl) zk) ?_
          refine WL.nil (WE.sub (K' := [(0, .slice pa sA.length ca), (1, .slice pb sB.length cb), (2, .slice pc sC.length cc), (3, .agg #[.int .i64 t.f, .slice a t.args.length c]), (7, .pointer (some ⟨g2, 0, none⟩)), (8, .bool false), (9, .slice p1 R1.length c1), (10, .int .i64 0), (11, .slice none 0 0), (12, .int .i64 2), (34, .bool ((decide ((30 : Int) < (t.size : Int))))), (53, .bool true)]) ⟨rfl, rfl, rfl, rfl, rfl, rfl, rfl, rfl, rfl, rfl, rfl, rfl, trivial⟩ ?_)
          refine WE.next ?_
          refine WC.condT rfl rfl ?_
          refine WC.seq ?_
          refine WC.region ?_
          refine WL.call rfl rfl rfl (fun za zh zC => wp_call (by kernel_rfl) rfl (hv0)) (wakes_any _) ?_
          rintro _ w50 ⟨rfl, hq49⟩
          refine WL.val (.bool true) rfl rfl rfl (fun za zC zh zk => wp_assign rfl (zh.ev rfl) zk) ?_
          refine WL.nil (WE.sub (K' := [(0, .slice pa sA.length ca), (1, .slice pb sB.length cb), (2, .slice pc sC.length cc), (3, .agg #[.int .i64 t.f, .slice a t.args.length c]), (7, .pointer (some ⟨g2, 0, none⟩)), (8, .bool true), (9, .slice p1 R1.length c1), (10, .int .i64 0), (11, .slice none 0 0), (12, .int .i64 2), (34, .bool ((decide ((30 : Int) < (t.size : Int))))), (53, .bool true)]) ⟨rfl, rfl, rfl, rfl, rfl, rfl, rfl, rfl, rfl, rfl, rfl, rfl, trivial⟩ ?_)
          refine WE.next ?_
          refine WC.ret ?_
          refine WE.thenRet ?_
          refine WE.ret1 rfl rfl ?_
          have hb51 : Below w.heap.size w w50 := (bstep (bstep hb47 hq46) hq49)
          exact ⟨_, rfl, rfl, hb51⟩

theorem twice_any (sA sB sC : List Bd) (t : T) (w : World) (pa pb pc : Option Addr) (ca cb cc : Nat) (v : Value) (hA : IsSub w sA pa ca) (hB : IsSub w sB pb cb) (hC : IsSub w sC pc cc) (hla : sA.length ≤ 1048576) (hlb : sB.length ≤ 1048576) (hlc : sC.length ≤ 1048576) (hz : t.size ≤ 4294967296) (hv : IsT w t v) : Calls Try.prog 4 #[.slice pa sA.length ca, .slice pb sB.length cb, .slice pc sC.length cc, v] w (Ret fun v' w' => v' = .bool true ∧ Below w.heap.size w w') := by
  by_cases h1 : subOk (-1) sA = true ∧ subOk (-1) sB = true
  · by_cases h2 : subOk (-1) sC = true
    · exact twice_yes sA sB sC t w pa pb pc ca cb cc v hA hB hC hla hlb hlc hz hv h1.1 h1.2 h2
    · exact twice_no2 sA sB sC t w pa pb pc ca cb cc v hA hB hC hla hlb hlc hz hv h1.1 h1.2 h2
  · exact twice_no1 sA sB sC t w pa pb pc ca cb cc v hA hB hC hla hlb hlc hz hv h1

end Go.Proofs.Ytgechlgdnnpoeaa
