/- The lexicographic path order of the document: over, Cmp. -/
import Derived.Test.YtlkiabgpnboicaaRefOver
namespace Go.Proofs.Ytlkiabgpnboicaa
open Go.RowKit Go

def RBoxP (o : Od) (s t : T) (p1 p2 : Option Addr) (k1 k2 : Nat) (w0 : World) (v : Value) (w : World) : Prop := ∃ q wa, v = .pointer (some ⟨q.gw, 0, none⟩) ∧ RBox o s t q w0 wa w ∧ p1 = q.p1 ∧ p2 = q.p2 ∧ k1 = q.k1 ∧ k2 = q.k2
theorem RBoxP.bel {o : Od} {s t : T} {p1 p2 : Option Addr} {k1 k2 : Nat} {w0 w w' : World} {v : Value} (h : RBoxP o s t p1 p2 k1 k2 w0 v w) (hb : Below w.heap.size w w') : RBoxP o s t p1 p2 k1 k2 w0 v w' := by
  obtain ⟨q, wa, h1, h2, h3⟩ := h
  exact ⟨q, wa, h1, ⟨h2.below, bstep h2.below1 hb, h2.m1, h2.m2, h2.blk.below hb, h2.eq⟩, h3⟩
theorem rboxp_st {o : Od} {s t : T} {w0 w : World} {v1 v2 : Value} {p1 p2 : Option Addr} {k1 k2 : Nat} (hb : Below w0.heap.size w0 w) (h1 : PartsOf 84 w0 s v1 w) (h2 : PartsOf 84 w0 t v2 w) :
    RBoxP o s t p1 p2 k1 k2 w0 (.pointer (some ⟨w.heap.size, 0, none⟩)) (w.alloc (.cells #[.bool o.lpo, .slice p1 o.prec.length k1, .slice p2 o.weights.length k2, .int .i64 o.var, v1, v2, .slice none 0 0] 67)) := by
  have hB : Blk (w.alloc (.cells #[.bool o.lpo, .slice p1 o.prec.length k1, .slice p2 o.weights.length k2, .int .i64 o.var, v1, v2, .slice none 0 0] 67)) w.heap.size 67 #[.bool o.lpo, .slice p1 o.prec.length k1, .slice p2 o.weights.length k2, .int .i64 o.var, v1, v2, .slice none 0 0] := Blk.new' rfl
  obtain ⟨b1, r1, xs1, rfl, o1, n1⟩ := h1
  obtain ⟨b2, r2, xs2, rfl, o2, n2⟩ := h2
  obtain ⟨A1, X1, C1, Z1, x1, m1⟩ := NdRow.of n1 o1
  obtain ⟨A2, X2, C2, Z2, x2, m2⟩ := NdRow.of n2 o2
  exact ⟨⟨w.heap.size, 0, 0, 0, 0, fun _ => 0, b1, b2, r1, r2, A1, A2, X1, X2, C1, C2, Z1, Z2, x1, x2, p1, p2, k1, k2⟩, w, rfl, ⟨hb, balloc _ _, m1, m2, hB, rfl⟩, rfl, rfl, rfl, rfl⟩
set_option maxRecDepth 100000 in
set_option maxHeartbeats 1000000 in
theorem rover_any (o : Od) (s t : T) (w : World) (vo v u : Value) (hs : o.lknows s = true) (ht : o.lknows t = true) (h1 : s.size ≤ 4294967296) (h2 : t.size ≤ 4294967296) (ho : IsOd w o vo) (hv : IsT w s v) (hu : IsT w t u) :
    Calls Try.prog 24 #[vo, v, u] w (Ret fun v' w' => v' = .bool (o.lg s t) ∧ Below w.heap.size w w') := by
  have hv0 := hv
  have hu0 := hu
  have hls := lay_len s 0
  have hlt := lay_len t 0
  obtain ⟨p1, p2, k1, k2, rfl, _, _, _, _, hp, _, _⟩ := ho
  obtain ⟨_, a, c, rfl, _, _, _⟩ := hv.form
  obtain ⟨_, a2, c2, rfl, _, _, _⟩ := hu.form
  refine Calls.walk (l := [.agg #[.bool o.lpo, .slice p1 o.prec.length k1, .slice p2 o.weights.length k2, .int .i64 o.var], .agg #[.int .i64 s.f, .slice a s.args.length c], .agg #[.int .i64 t.f, .slice a2 t.args.length c2]]) Try.func24 rfl (by kernel_rfl) ?_
  refine WC.sub (K' := [(0, .agg #[.bool o.lpo, .slice p1 o.prec.length k1, .slice p2 o.weights.length k2, .int .i64 o.var]), (1, .agg #[.int .i64 s.f, .slice a s.args.length c]), (2, .agg #[.int .i64 t.f, .slice a2 t.args.length c2])]) ⟨rfl, rfl, rfl, trivial⟩ ?_
  refine WC.seq ?_
  refine WC.region ?_
  refine WL.step (post := NewBlk w 24 #[.bool o.lpo, .slice p1 o.prec.length k1, .slice p2 o.weights.length k2, .int .i64 o.var]) rfl rfl rfl (fun za zC zh zk => box_24 rfl (zh.ev rfl) (zk _ _ (newBlk _ _ _))) ?_
  rintro _ w1 ⟨g2, rfl, hg3, hB4, hb5, hz6⟩
  have hl7 : w.heap.size ≤ g2 := by omega
  refine WL.step (post := NewBlk w1 27 #[.int .i64 s.f, .slice a s.args.length c]) rfl rfl rfl (fun za zC zh zk => box_27 rfl (zh.ev rfl) (zk _ _ (newBlk _ _ _))) ?_
  rintro _ w8 ⟨g9, rfl, hg10, hB11, hb12, hz13⟩
  have hl14 : g2 < g9 := by have z1 := hB4.lt; omega
  have hl15 : w.heap.size ≤ g9 := by have z2 := (hb5).size; omega
  refine WL.step (post := NewBlk w8 27 #[.int .i64 t.f, .slice a2 t.args.length c2]) rfl rfl rfl (fun za zC zh zk => box_27 rfl (zh.ev rfl) (zk _ _ (newBlk _ _ _))) ?_
  rintro _ w16 ⟨g17, rfl, hg18, hB19, hb20, hz21⟩
  have hl22 : g2 < g17 := by have z1 := hB4.lt; have z2 := (hb12).size; omega
  have hl23 : g9 < g17 := by have z1 := hB11.lt; omega
  have hb24 : Below w.heap.size w w8 := (bstep hb5 hb12)
  have hl25 : w.heap.size ≤ g17 := by have z2 := (hb24).size; omega
  refine WL.val (.bool false) rfl rfl rfl (fun za zC zh zk => wp_assign rfl (zh.ev rfl) zk) ?_
  refine WL.nil (WE.sub (K' := [(0, .agg #[.bool o.lpo, .slice p1 o.prec.length k1, .slice p2 o.weights.length k2, .int .i64 o.var]), (1, .agg #[.int .i64 s.f, .slice a s.args.length c]), (2, .agg #[.int .i64 t.f, .slice a2 t.args.length c2]), (3, .pointer (some ⟨g2, 0, none⟩)), (4, .pointer (some ⟨g9, 0, none⟩)), (5, .pointer (some ⟨g17, 0, none⟩)), (6, .bool false)]) ⟨rfl, rfl, rfl, rfl, rfl, rfl, rfl, trivial⟩ ?_)
  refine WE.next ?_
  refine WC.seq ?_
  have hb27 : Below w1.heap.size w1 w16 := (bstep hb12 hb20)
  have hB26 := hB4.below hb27
  have hB28 := hB11.below hb20
  have hb29 : Below w.heap.size w w16 := (bstep hb5 hb27)
  refine WC.opt [(true, .val (.agg #[.bool o.lpo, .slice p1 o.prec.length k1, .slice p2 o.weights.length k2, .int .i64 o.var])), (true, .val (.agg #[.int .i64 s.f, .slice a s.args.length c])), (true, .mem (PartsOf 84 w s) (fun v w w' hb h => PartsOf.bel h hb)), (true, .val (.agg #[.int .i64 t.f, .slice a2 t.args.length c2])), (true, .mem (PartsOf 84 w t) (fun v w w' hb h => PartsOf.bel h hb)), (true, .mem (fun v w' => ∃ v1 v2, v = .agg #[.bool o.lpo, .slice p1 o.prec.length k1, .slice p2 o.weights.length k2, .int .i64 o.var, v1, v2, .slice none 0 0] ∧ PartsOf 84 w s v1 w' ∧ PartsOf 84 w t v2 w') (fun v w w' hb h => by obtain ⟨v1, v2, e, h1, h2⟩ := h; exact ⟨v1, v2, e, h1.bel hb, h2.bel hb⟩)), (true, .mem (fun v w' => RBoxP o s t p1 p2 k1 k2 w v w') (fun v w w' hb h => RBoxP.bel h hb)), (true, .mem (fun v w' => RBoxP o s t p1 p2 k1 k2 w v w') (fun v w w' hb h => RBoxP.bel h hb))] [(0, .agg #[.bool o.lpo, .slice p1 o.prec.length k1, .slice p2 o.weights.length k2, .int .i64 o.var]), (1, .agg #[.int .i64 s.f, .slice a s.args.length c]), (2, .agg #[.int .i64 t.f, .slice a2 t.args.length c2]), (3, .pointer (some ⟨g2, 0, none⟩)), (4, .pointer (some ⟨g9, 0, none⟩)), (5, .pointer (some ⟨g17, 0, none⟩)), (6, .bool false)] ⟨rfl, rfl, rfl, rfl, rfl, rfl, rfl, trivial⟩ (by kernel_rfl) (by kernel_rfl) (by kernel_rfl) ?_ ?_
  · refine ⟨⟨true, .none rfl, fun h w => optUndef h, fun zβ za zw zc => ?_⟩, ?_⟩
    · exact ld_24 rfl (zc.kn.ev rfl) (bkeeps zc.below _ _ ((hB26.cell 0).trans rfl)) (bkeeps zc.below _ _ ((hB26.cell 1).trans rfl)) (bkeeps zc.below _ _ ((hB26.cell 2).trans rfl)) (bkeeps zc.below _ _ ((hB26.cell 3).trans rfl)) ⟨_, rfl, Below.refl _ _, optDef zβ rfl⟩
    refine ⟨⟨true, .none rfl, fun h w => optUndef h, fun zβ za zw zc => ?_⟩, ?_⟩
    · exact ld_27 rfl (zc.kn.ev rfl) (bkeeps zc.below _ _ ((hB28.cell 0).trans rfl)) (bkeeps zc.below _ _ ((hB28.cell 1).trans rfl)) ⟨_, rfl, Below.refl _ _, optDef zβ rfl⟩
    refine ⟨⟨true, .none rfl, fun h w => optUndef h, fun zβ za zw zc => ?_⟩, ?_⟩
    · exact wp_call (by kernel_rfl) rfl (hv2 ((show za.eval (.tmp 10) = za.tmps.getD 10 undef from rfl).trans (optVal (zc.dep 1 10 (by kernel_rfl)) rfl rfl)) (zc.kn.ev rfl)) (flat_of (bstep hb29 zc.below) hv0 h1) (fun v w' h => ⟨v, rfl, h.2, optDef zβ h.1⟩)
    refine ⟨⟨true, .none rfl, fun h w => optUndef h, fun zβ za zw zc => ?_⟩, ?_⟩
    · exact ld_27 rfl (zc.kn.ev rfl) (bkeeps zc.below _ _ ((hB19.cell 0).trans rfl)) (bkeeps zc.below _ _ ((hB19.cell 1).trans rfl)) ⟨_, rfl, Below.refl _ _, optDef zβ rfl⟩
    refine ⟨⟨true, .none rfl, fun h w => optUndef h, fun zβ za zw zc => ?_⟩, ?_⟩
    · exact wp_call (by kernel_rfl) rfl (hv2 ((show za.eval (.tmp 12) = za.tmps.getD 12 undef from rfl).trans (optVal (zc.dep 3 12 (by kernel_rfl)) rfl rfl)) (zc.kn.ev rfl)) (flat_of (bstep hb29 zc.below) hu0 h2) (fun v w' h => ⟨v, rfl, h.2, optDef zβ h.1⟩)
    refine ⟨⟨true, .none rfl, fun h w => optUndef h, fun zβ za zw zc => ?_⟩, ?_⟩
    · have m1 := (optMem (zc.dep 2 11 (by kernel_rfl)) rfl rfl)
      have m2 := (optMem (zc.dep 4 13 (by kernel_rfl)) rfl rfl)
      obtain ⟨b1, r1, x1, e1, _⟩ := id m1
      obtain ⟨b2, r2, x2, e2, _⟩ := id m2
      refine build_67_0_1_2 rfl ((show za.eval (.tmp 9) = za.tmps.getD 9 undef from rfl).trans (optVal (zc.dep 0 9 (by kernel_rfl)) rfl rfl)) ((show za.eval (.tmp 11) = za.tmps.getD 11 undef from rfl).trans e1) ((show za.eval (.tmp 13) = za.tmps.getD 13 undef from rfl).trans e2) ⟨_, rfl, Below.refl _ _, optDef zβ ⟨_, _, rfl, e1 ▸ m1, e2 ▸ m2⟩⟩
    refine ⟨⟨true, .none rfl, fun h w => optUndef h, fun zβ za zw zc => ?_⟩, ?_⟩
    · obtain ⟨v1, v2, e, m1, m2⟩ := (optMem (zc.dep 5 14 (by kernel_rfl)) rfl rfl)
      exact box_67 rfl ((show za.eval (.tmp 14) = za.tmps.getD 14 undef from rfl).trans e) ⟨_, rfl, balloc _ _, optDef zβ (rboxp_st (bstep hb29 zc.below) m1 m2)⟩
    refine ⟨⟨true, .none rfl, fun h w => optUndef h, fun zβ za zw zc => ?_⟩, ?_⟩
    · exact wp_assign rfl (show za.eval (.tmp 15) = za.tmps.getD 15 undef from rfl) ⟨_, rfl, Below.refl _ _, optDef zβ (optMem (zc.dep 6 15 (by kernel_rfl)) rfl rfl)⟩
    exact trivial
  · intro za w30 zh hb31 zu
    obtain ⟨q, wa, hq, hR, e1, e2, e3, e4⟩ := (optMem (zu 7 7 (by kernel_rfl)) rfl rfl)
    have hRB := hR.blk
    rw [← e1, ← e2, ← e3, ← e4] at hRB
    have hwa := hR.below.size
    have heq := hR.eq
    have hgl := hR.blk.lt
    have zh := zh.cons (d := 7) hq
    clear zu
    refine (show WE _ [(0, .agg #[.bool o.lpo, .slice p1 o.prec.length k1, .slice p2 o.weights.length k2, .int .i64 o.var]), (1, .agg #[.int .i64 s.f, .slice a s.args.length c]), (2, .agg #[.int .i64 t.f, .slice a2 t.args.length c2]), (3, .pointer (some ⟨g2, 0, none⟩)), (4, .pointer (some ⟨g9, 0, none⟩)), (5, .pointer (some ⟨g17, 0, none⟩)), (6, .bool false), (7, .pointer (some ⟨q.gw, 0, none⟩))] w30 _ .normal from ?_) za (zh.sub ⟨rfl, rfl, rfl, rfl, rfl, rfl, rfl, rfl, trivial⟩)
    refine WE.next ?_
    refine WC.seq ?_
    refine WC.seq ?_
    refine WC.region ?_
    refine WL.val (.int .i64 0) rfl rfl rfl (fun za zC zh zk => wp_assign rfl (zh.ev rfl) zk) ?_
    refine WL.nil (WE.sub (K' := [(0, .agg #[.bool o.lpo, .slice p1 o.prec.length k1, .slice p2 o.weights.length k2, .int .i64 o.var]), (1, .agg #[.int .i64 s.f, .slice a s.args.length c]), (2, .agg #[.int .i64 t.f, .slice a2 t.args.length c2]), (3, .pointer (some ⟨g2, 0, none⟩)), (4, .pointer (some ⟨g9, 0, none⟩)), (5, .pointer (some ⟨g17, 0, none⟩)), (6, .bool false), (7, .pointer (some ⟨q.gw, 0, none⟩)), (8, .int .i64 0)]) ⟨rfl, rfl, rfl, rfl, rfl, rfl, rfl, rfl, rfl, trivial⟩ ?_)
    refine WE.next ?_
    refine WC.block ?_
    refine WC.loop (X := TabX) (fun x => (lay s 0).length - x.k) (fun x => [(0, .agg #[.bool o.lpo, .slice p1 o.prec.length k1, .slice p2 o.weights.length k2, .int .i64 o.var]), (1, .agg #[.int .i64 s.f, .slice a s.args.length c]), (2, .agg #[.int .i64 t.f, .slice a2 t.args.length c2]), (3, .pointer (some ⟨g2, 0, none⟩)), (4, .pointer (some ⟨g9, 0, none⟩)), (5, .pointer (some ⟨g17, 0, none⟩)), (6, .bool false), (7, .pointer (some ⟨q.gw, 0, none⟩)), (8, .int .i64 (((x.k : Nat) : Int)))]) (fun x w32 => x.k ≤ (lay s 0).length ∧ TabSt (q.gw + 1) (lay t 0).length x.fa x.fc x.bo x.lo x.F x.k w32 ∧ Below w.heap.size w w32 ∧ Below wa.heap.size wa w32 ∧ Blk w32 q.gw 67 #[.bool o.lpo, .slice p1 o.prec.length k1, .slice p2 o.weights.length k2, .int .i64 o.var, .slice ((some ⟨q.b1, 0, none⟩)) ((lay s 0).length) q.r1, .slice ((some ⟨q.b2, 0, none⟩)) ((lay t 0).length) q.r2, .slice x.fa x.k x.fc]) (⟨none, 0, 0, 0, fun _ => 0, 0⟩) ⟨rfl, rfl, rfl, rfl, rfl, rfl, rfl, rfl, rfl, trivial⟩ ?_ ?_
    · have hb33 : Below w.heap.size w w30 := (bstep hb29 hb31)
      exact ⟨Nat.zero_le _, TabSt.start _ _ _, hb33, hR.below1, hRB⟩
    · rintro x w32 ⟨hk, hT, hb34, hb35, hB36⟩
      refine WC.seq ?_
      refine WC.seq ?_
      refine WC.region ?_
      refine WL.val (.int .i64 (((x.k : Nat) : Int))) rfl rfl rfl (fun za zC zh zk => wp_move rfl (zh.ev rfl) zk) ?_
      refine WL.val (.pointer (some ⟨q.gw, 0, none⟩)) rfl rfl rfl (fun za zC zh zk => wp_move rfl (zh.ev rfl) zk) ?_
      refine WL.val (.pointer (some ⟨q.gw, 0, none⟩)) rfl rfl rfl (fun za zC zh zk => nilCheck_ rfl (zh.ev rfl) zk) ?_
      refine WL.val (.pointer (some ⟨q.gw, 4, none⟩)) rfl rfl rfl (fun za zC zh zk => fld_67_1 rfl (zh.ev rfl) zk) ?_
      refine WL.val (.slice ((some ⟨q.b1, 0, none⟩)) ((lay s 0).length) q.r1) rfl rfl rfl (fun za zC zh zk => ld_63 rfl (zh.ev rfl) ((hB36.cell 4).trans rfl) zk) ?_
      refine WL.val (.int .i64 ((((lay s 0).length : Nat) : Int))) rfl rfl rfl (fun za zC zh zk => len_63 rfl (zh.ev rfl) zk) ?_
      refine WL.val (.bool ((decide ((((x.k : Nat) : Int) : Int) < ((((lay s 0).length : Nat) : Int) : Int))))) rfl rfl rfl (fun za zC zh zk => lss_3 rfl (zh.ev rfl) (zh.ev rfl) zk) ?_
      refine WL.nil (WE.sub (K' := [(0, .agg #[.bool o.lpo, .slice p1 o.prec.length k1, .slice p2 o.weights.length k2, .int .i64 o.var]), (1, .agg #[.int .i64 s.f, .slice a s.args.length c]), (2, .agg #[.int .i64 t.f, .slice a2 t.args.length c2]), (3, .pointer (some ⟨g2, 0, none⟩)), (4, .pointer (some ⟨g9, 0, none⟩)), (5, .pointer (some ⟨g17, 0, none⟩)), (6, .bool false), (7, .pointer (some ⟨q.gw, 0, none⟩)), (8, .int .i64 (((x.k : Nat) : Int))), (22, .bool ((decide ((((x.k : Nat) : Int) : Int) < ((((lay s 0).length : Nat) : Int) : Int)))))]) ⟨rfl, rfl, rfl, rfl, rfl, rfl, rfl, rfl, rfl, rfl, trivial⟩ ?_)
      refine WE.next ?_
      refine WC.cond rfl (fun h37 => ?_) (fun h37 => ?_)
      · have h37 : (((x.k : Nat) : Int) : Int) < ((((lay s 0).length : Nat) : Int) : Int) := by simpa using h37
        refine WC.skip ?_
        refine WE.next ?_
        refine WC.seq ?_
        refine WC.block ?_
        have hlo := TabSt.hlo hT
        have hbo := TabSt.hbo hT
        have hgs := hB36.lt
        refine WC.mk [(true, .pointer (some ⟨q.gw, 0, none⟩)), (true, .pointer (some ⟨q.gw, 0, none⟩)), (true, .pointer (some ⟨q.gw, 0, none⟩)), (true, .pointer (some ⟨q.gw, 6, none⟩)), (true, .slice x.fa x.k x.fc), (true, .pointer (some ⟨q.gw, 0, none⟩)), (true, .pointer (some ⟨q.gw, 0, none⟩)), (true, .pointer (some ⟨q.gw, 5, none⟩)), (true, .slice ((some ⟨q.b2, 0, none⟩)) ((lay t 0).length) q.r2), (true, .int .i64 ((((lay t 0).length : Nat) : Int))), (true, undef), (true, undef), (true, undef), (true, .pointer (some ⟨q.gw, 0, none⟩)), (true, .pointer (some ⟨q.gw, 6, none⟩)), (true, undef)] [(0, .agg #[.bool o.lpo, .slice p1 o.prec.length k1, .slice p2 o.weights.length k2, .int .i64 o.var]), (1, .agg #[.int .i64 s.f, .slice a s.args.length c]), (2, .agg #[.int .i64 t.f, .slice a2 t.args.length c2]), (3, .pointer (some ⟨g2, 0, none⟩)), (4, .pointer (some ⟨g9, 0, none⟩)), (5, .pointer (some ⟨g17, 0, none⟩)), (6, .bool false), (7, .pointer (some ⟨q.gw, 0, none⟩)), (8, .int .i64 (((x.k : Nat) : Int))), (22, .bool ((decide ((((x.k : Nat) : Int) : Int) < ((((lay s 0).length : Nat) : Int) : Int)))))] (S := (fun b => b = x.bo ∧ b < x.lo)) (e := 22) (tI := 3) (nI := (lay t 0).length) (zI := zeros (lay t 0).length) (ln := x.k) (xs := rowsOf x.F (lay t 0).length x.k) (g := q.gw) (ty := 67) (cs := #[.bool o.lpo, .slice p1 o.prec.length k1, .slice p2 o.weights.length k2, .int .i64 o.var, .slice ((some ⟨q.b1, 0, none⟩)) ((lay s 0).length) q.r1, .slice ((some ⟨q.b2, 0, none⟩)) ((lay t 0).length) q.r2, .slice x.fa x.k x.fc]) 6 10 11 12 15 (by decide) (by kernel_rfl) (by omega) (fun b hb => by omega) (TabSt.own hT) hB36 ⟨rfl, rfl, rfl, rfl, rfl, rfl, rfl, rfl, rfl, rfl, trivial⟩ (by kernel_rfl) (by kernel_rfl) (by kernel_rfl) ?_ ?_
        · refine ⟨.inr (.inl ⟨by decide, by kernel_rfl, rfl, fun za zw zc => ?_⟩), ?_⟩
          · exact wp_move rfl (zc.kn.ev rfl) ⟨_, rfl, rfl, optDef rfl rfl⟩
          refine ⟨.inr (.inl ⟨by decide, by kernel_rfl, rfl, fun za zw zc => ?_⟩), ?_⟩
          · exact wp_move rfl (zc.kn.ev rfl) ⟨_, rfl, rfl, optDef rfl rfl⟩
          refine ⟨.inr (.inl ⟨by decide, by kernel_rfl, rfl, fun za zw zc => ?_⟩), ?_⟩
          · exact nilCheck_ rfl ((show za.eval (.tmp 26) = za.tmps.getD 26 undef from rfl).trans (valVal (zc.dep 1 26 (by kernel_rfl) (by decide)) rfl rfl)) ⟨_, rfl, rfl, optDef rfl rfl⟩
          refine ⟨.inr (.inl ⟨by decide, by kernel_rfl, rfl, fun za zw zc => ?_⟩), ?_⟩
          · exact fld_67_3 rfl ((show za.eval (.tmp 27) = za.tmps.getD 27 undef from rfl).trans (valVal (zc.dep 2 27 (by kernel_rfl) (by decide)) rfl rfl)) ⟨_, rfl, rfl, optDef rfl rfl⟩
          refine ⟨.inr (.inl ⟨by decide, by kernel_rfl, rfl, fun za zw zc => ?_⟩), ?_⟩
          · exact ld_65 rfl ((show za.eval (.tmp 28) = za.tmps.getD 28 undef from rfl).trans (valVal (zc.dep 3 28 (by kernel_rfl) (by decide)) rfl rfl)) (chg_cell zc.chg (by (try dsimp only at *); omega) ((hB36.cell 6).trans rfl)) ⟨_, rfl, rfl, optDef rfl rfl⟩
          refine ⟨.inr (.inl ⟨by decide, by kernel_rfl, rfl, fun za zw zc => ?_⟩), ?_⟩
          · exact wp_move rfl (zc.kn.ev rfl) ⟨_, rfl, rfl, optDef rfl rfl⟩
          refine ⟨.inr (.inl ⟨by decide, by kernel_rfl, rfl, fun za zw zc => ?_⟩), ?_⟩
          · exact nilCheck_ rfl ((show za.eval (.tmp 30) = za.tmps.getD 30 undef from rfl).trans (valVal (zc.dep 5 30 (by kernel_rfl) (by decide)) rfl rfl)) ⟨_, rfl, rfl, optDef rfl rfl⟩
          refine ⟨.inr (.inl ⟨by decide, by kernel_rfl, rfl, fun za zw zc => ?_⟩), ?_⟩
          · exact fld_67_2 rfl ((show za.eval (.tmp 31) = za.tmps.getD 31 undef from rfl).trans (valVal (zc.dep 6 31 (by kernel_rfl) (by decide)) rfl rfl)) ⟨_, rfl, rfl, optDef rfl rfl⟩
          refine ⟨.inr (.inl ⟨by decide, by kernel_rfl, rfl, fun za zw zc => ?_⟩), ?_⟩
          · exact ld_63 rfl ((show za.eval (.tmp 32) = za.tmps.getD 32 undef from rfl).trans (valVal (zc.dep 7 32 (by kernel_rfl) (by decide)) rfl rfl)) (chg_cell zc.chg (by (try dsimp only at *); omega) ((hB36.cell 5).trans rfl)) ⟨_, rfl, rfl, optDef rfl rfl⟩
          refine ⟨.inr (.inl ⟨by decide, by kernel_rfl, rfl, fun za zw zc => ?_⟩), ?_⟩
          · exact len_63 rfl ((show za.eval (.tmp 33) = za.tmps.getD 33 undef from rfl).trans (valVal (zc.dep 8 33 (by kernel_rfl) (by decide)) rfl rfl)) ⟨_, rfl, rfl, optDef rfl rfl⟩
          refine ⟨.inr (.inr (.inl ⟨rfl, rfl, by kernel_rfl, fun za zw zc => ?_⟩)), ?_⟩
          · exact wp_mkI rfl ((show za.eval (.tmp 34) = za.tmps.getD 34 undef from rfl).trans (valVal (zc.dep 9 34 (by kernel_rfl) (by decide)) rfl rfl)) ((show za.eval (.tmp 34) = za.tmps.getD 34 undef from rfl).trans (valVal (zc.dep 9 34 (by kernel_rfl) (by decide)) rfl rfl)) (by omega) ⟨rfl, rfl⟩
          refine ⟨.inr (.inr (.inr (.inl ⟨rfl, rfl, by kernel_rfl, 35, by kernel_rfl, fun za zw gI zc z1 => ?_⟩))), ?_⟩
          · exact row_65_1 rfl ((show za.eval (.tmp 35) = za.tmps.getD 35 undef from rfl).trans z1) ⟨rfl, rfl⟩
          refine ⟨.inr (.inr (.inr (.inr (.inl ⟨rfl, rfl, by kernel_rfl, 36, by kernel_rfl, fun za zw g1 gI zc zo z1 zB => ?_⟩)))), ?_⟩
          · exact app_65 (S := fun b => (b = x.bo ∧ b < x.lo) ∨ b = zw.heap.size) rfl ((show za.eval (.tmp 29) = za.tmps.getD 29 undef from rfl).trans (valVal (zc.dep 4 29 (by kernel_rfl) (by decide)) rfl rfl)) ((show za.eval (.tmp 36) = za.tmps.getD 36 undef from rfl).trans z1) (own_mono zo (fun b h => .inl h)) (SrcIs.ofBlk zB) (by simp) (by simp [Value.oneCell']) (by omega) (by omega) (.inr rfl) (fun ra rc w' h1 h2 => ⟨ra, rc, rfl, h1, h2⟩)
          refine ⟨.inl ⟨by decide, rfl, fun za zw zc => ?_⟩, ?_⟩
          · exact nilCheck_ rfl ((show za.eval (.tmp 25) = za.tmps.getD 25 undef from rfl).trans (valVal (zc.dep 0 25 (by kernel_rfl) (by decide)) rfl rfl)) ⟨_, rfl, rfl, optDef rfl rfl⟩
          refine ⟨.inr (.inl ⟨by decide, by kernel_rfl, rfl, fun za zw zc => ?_⟩), ?_⟩
          · exact fld_67_3 rfl ((show za.eval (.tmp 38) = za.tmps.getD 38 undef from rfl).trans (valVal (zc.dep 13 38 (by kernel_rfl) (by decide)) rfl rfl)) ⟨_, rfl, rfl, optDef rfl rfl⟩
          refine ⟨.inr (.inr (.inr (.inr (.inr ⟨rfl, rfl, 37, by kernel_rfl, fun za zw ra rc zc z1 => ?_⟩)))), ?_⟩
          · exact st_65 rfl ((show za.eval (.tmp 39) = za.tmps.getD 39 undef from rfl).trans (valVal (zc.dep 14 39 (by kernel_rfl) (by decide)) rfl rfl)) ((show za.eval (.tmp 37) = za.tmps.getD 37 undef from rfl).trans z1) zc.blk (by first | decide | simp) (fun v => ⟨v, rfl, Upd.at_ _ _ _ _, zc.blk.set_ 6 _⟩)
          exact trivial
        · intro za w38 b2 rc2 gI zh hc hO hS hne hlt2 hI hBI hBg zu
          have hb39 := chg_below hb34 hc (fun b hb => (by (try dsimp only at *); omega))
          have hb40 := chg_below hb35 hc (fun b hb => (by (try dsimp only at *); omega))
          have hT2 := TabSt.step hT (by omega) (by omega) hc hO hS hne hlt2 hI hBI
          clear zu
          refine (show WE _ [(0, .agg #[.bool o.lpo, .slice p1 o.prec.length k1, .slice p2 o.weights.length k2, .int .i64 o.var]), (1, .agg #[.int .i64 s.f, .slice a s.args.length c]), (2, .agg #[.int .i64 t.f, .slice a2 t.args.length c2]), (3, .pointer (some ⟨g2, 0, none⟩)), (4, .pointer (some ⟨g9, 0, none⟩)), (5, .pointer (some ⟨g17, 0, none⟩)), (6, .bool false), (7, .pointer (some ⟨q.gw, 0, none⟩)), (8, .int .i64 (((x.k : Nat) : Int))), (22, .bool ((decide ((((x.k : Nat) : Int) : Int) < ((((lay s 0).length : Nat) : Int) : Int)))))] w38 _ .normal from ?_) za (zh.sub ⟨rfl, rfl, rfl, rfl, rfl, rfl, rfl, rfl, rfl, rfl, trivial⟩)
          refine WE.blockNormal ?_
          refine WE.next ?_
          refine WC.region ?_
          refine WL.val (.int .i64 (((x.k : Nat) : Int))) rfl rfl rfl (fun za zC zh zk => wp_move rfl (zh.ev rfl) zk) ?_
          refine WL.val (.int .i64 ((((x.k + 1) : Nat) : Int))) rfl rfl rfl (fun za zC zh zk => addb_3 rfl (zh.ev rfl) (zh.ev rfl) (wrap_eq (by omega) (by omega) (by omega)) zk) ?_
          refine WL.val (.int .i64 ((((x.k + 1) : Nat) : Int))) rfl rfl rfl (fun za zC zh zk => wp_assign rfl (zh.ev rfl) zk) ?_
          refine WL.nil (WE.sub (K' := [(0, .agg #[.bool o.lpo, .slice p1 o.prec.length k1, .slice p2 o.weights.length k2, .int .i64 o.var]), (1, .agg #[.int .i64 s.f, .slice a s.args.length c]), (2, .agg #[.int .i64 t.f, .slice a2 t.args.length c2]), (3, .pointer (some ⟨g2, 0, none⟩)), (4, .pointer (some ⟨g9, 0, none⟩)), (5, .pointer (some ⟨g17, 0, none⟩)), (6, .bool false), (7, .pointer (some ⟨q.gw, 0, none⟩)), (8, .int .i64 ((((x.k + 1) : Nat) : Int))), (22, .bool ((decide ((((x.k : Nat) : Int) : Int) < ((((lay s 0).length : Nat) : Int) : Int)))))]) ⟨rfl, rfl, rfl, rfl, rfl, rfl, rfl, rfl, rfl, rfl, trivial⟩ ?_)
          refine WE.round (⟨some ⟨b2, 0, none⟩, rc2, b2, b2 + 1, fun i => if i = x.k then gI else x.F i, x.k + 1⟩) ⟨rfl, rfl, rfl, rfl, rfl, rfl, rfl, rfl, rfl, trivial⟩ ?_ ?_
          · exact ⟨by dsimp only; omega, (hT2.bel (Below.refl _ _)), hb39, hb40, hBg⟩
          · dsimp only; omega
      · have h37 : ¬ ((((x.k : Nat) : Int) : Int) < ((((lay s 0).length : Nat) : Int) : Int)) := by simpa using h37
        refine WC.exit ?_
        refine WE.thenExit ?_
        refine WE.thenExit ?_
        refine WE.blockIs rfl ?_
        refine WE.next ?_
        refine WC.seq ?_
        refine WC.region ?_
        refine WL.val (.pointer (some ⟨q.gw, 0, none⟩)) rfl rfl rfl (fun za zC zh zk => wp_move rfl (zh.ev rfl) zk) ?_
        obtain ⟨q2, hq2, hst⟩ := ref_st hR hb35 (e1 ▸ hp) (by omega) (hT.bel (Below.refl _ _)) (by rw [← e1, ← e2, ← e3, ← e4]; exact hB36)
        refine WL.call rfl rfl rfl (fun za zh zC => wp_call (by kernel_rfl) rfl (hv3 (zh.ev rfl) (zh.ev rfl) (zh.ev rfl))) (hq2 ▸ rabove0 hs ht h1 h2 hst) ?_
        rintro _ w41 ⟨rfl, hbz⟩
        refine WL.val (.bool ((o.lg s t))) rfl rfl rfl (fun za zC zh zk => wp_assign rfl (zh.ev rfl) zk) ?_
        refine WL.nil (WE.sub (K' := [(0, .agg #[.bool o.lpo, .slice p1 o.prec.length k1, .slice p2 o.weights.length k2, .int .i64 o.var]), (1, .agg #[.int .i64 s.f, .slice a s.args.length c]), (2, .agg #[.int .i64 t.f, .slice a2 t.args.length c2]), (3, .pointer (some ⟨g2, 0, none⟩)), (4, .pointer (some ⟨g9, 0, none⟩)), (5, .pointer (some ⟨g17, 0, none⟩)), (6, .bool ((o.lg s t))), (7, .pointer (some ⟨q.gw, 0, none⟩)), (8, .int .i64 (((x.k : Nat) : Int))), (22, .bool ((decide ((((x.k : Nat) : Int) : Int) < ((((lay s 0).length : Nat) : Int) : Int)))))]) ⟨rfl, rfl, rfl, rfl, rfl, rfl, rfl, rfl, rfl, rfl, trivial⟩ ?_)
        refine WE.next ?_
        refine WC.ret ?_
        refine WE.ret1 rfl rfl ?_
        exact ⟨_, rfl, rfl, hbz⟩

set_option maxRecDepth 100000 in
theorem rcmp_any (o : Od) (s t : T) (w : World) (vo v u : Value) (h1 : s.size ≤ 4294967296) (h2 : t.size ≤ 4294967296) (ho : IsOd w o vo) (hv : IsT w s v) (hu : IsT w t u) :
    Calls Try.prog 10 #[vo, v, u] w (Ret fun v' w' => v' = .int .i64 (o.lcmp s t) ∧ Below w.heap.size w w') := by
  have hv0 := hv
  have hu0 := hu
  have ho0 := ho
  obtain ⟨p1, p2, k1, k2, rfl, _, _, _, _, hp, _, _⟩ := ho
  obtain ⟨_, a, c, rfl, _, _, _⟩ := hv.form
  obtain ⟨_, a2, c2, rfl, _, _, _⟩ := hu.form
  refine Calls.walk (l := [.agg #[.bool o.lpo, .slice p1 o.prec.length k1, .slice p2 o.weights.length k2, .int .i64 o.var], .agg #[.int .i64 s.f, .slice a s.args.length c], .agg #[.int .i64 t.f, .slice a2 t.args.length c2]]) Try.func10 rfl (by kernel_rfl) ?_
  refine WC.sub (K' := [(0, .agg #[.bool o.lpo, .slice p1 o.prec.length k1, .slice p2 o.weights.length k2, .int .i64 o.var]), (1, .agg #[.int .i64 s.f, .slice a s.args.length c]), (2, .agg #[.int .i64 t.f, .slice a2 t.args.length c2])]) ⟨rfl, rfl, rfl, trivial⟩ ?_
  refine WC.seq ?_
  refine WC.region ?_
  refine WL.step (post := NewBlk w 24 #[.bool o.lpo, .slice p1 o.prec.length k1, .slice p2 o.weights.length k2, .int .i64 o.var]) rfl rfl rfl (fun za zC zh zk => box_24 rfl (zh.ev rfl) (zk _ _ (newBlk _ _ _))) ?_
  rintro _ w1 ⟨g2, rfl, hg3, hB4, hb5, hz6⟩
  have hl7 : w.heap.size ≤ g2 := by omega
  refine WL.step (post := NewBlk w1 27 #[.int .i64 s.f, .slice a s.args.length c]) rfl rfl rfl (fun za zC zh zk => box_27 rfl (zh.ev rfl) (zk _ _ (newBlk _ _ _))) ?_
  rintro _ w8 ⟨g9, rfl, hg10, hB11, hb12, hz13⟩
  have hl14 : g2 < g9 := by have z1 := hB4.lt; omega
  have hl15 : w.heap.size ≤ g9 := by have z2 := (hb5).size; omega
  refine WL.step (post := NewBlk w8 27 #[.int .i64 t.f, .slice a2 t.args.length c2]) rfl rfl rfl (fun za zC zh zk => box_27 rfl (zh.ev rfl) (zk _ _ (newBlk _ _ _))) ?_
  rintro _ w16 ⟨g17, rfl, hg18, hB19, hb20, hz21⟩
  have hl22 : g2 < g17 := by have z1 := hB4.lt; have z2 := (hb12).size; omega
  have hl23 : g9 < g17 := by have z1 := hB11.lt; omega
  have hb24 : Below w.heap.size w w8 := (bstep hb5 hb12)
  have hl25 : w.heap.size ≤ g17 := by have z2 := (hb24).size; omega
  refine WL.val (.int .i64 0) rfl rfl rfl (fun za zC zh zk => wp_assign rfl (zh.ev rfl) zk) ?_
  refine WL.nil (WE.sub (K' := [(0, .agg #[.bool o.lpo, .slice p1 o.prec.length k1, .slice p2 o.weights.length k2, .int .i64 o.var]), (1, .agg #[.int .i64 s.f, .slice a s.args.length c]), (2, .agg #[.int .i64 t.f, .slice a2 t.args.length c2]), (3, .pointer (some ⟨g2, 0, none⟩)), (4, .pointer (some ⟨g9, 0, none⟩)), (5, .pointer (some ⟨g17, 0, none⟩)), (6, .int .i64 0)]) ⟨rfl, rfl, rfl, rfl, rfl, rfl, rfl, trivial⟩ ?_)
  refine WE.next ?_
  refine WC.seq ?_
  refine WC.seq ?_
  have hb27 : Below w1.heap.size w1 w16 := (bstep hb12 hb20)
  have hB26 := hB4.below hb27
  have hB28 := hB11.below hb20
  have hb29 : Below w.heap.size w w16 := (bstep hb5 hb27)
  refine WC.opt [(true, .val (.agg #[.bool o.lpo, .slice p1 o.prec.length k1, .slice p2 o.weights.length k2, .int .i64 o.var])), (true, .val (.agg #[.int .i64 s.f, .slice a s.args.length c])), (true, .val (.bool ((o.lknows s)))), (true, .val (.bool ((!(o.lknows s))))), (true, .val (.bool ((!(o.lknows s))))), ((true && !(!(o.lknows s))), .val (.agg #[.bool o.lpo, .slice p1 o.prec.length k1, .slice p2 o.weights.length k2, .int .i64 o.var])), ((true && !(!(o.lknows s))), .val (.agg #[.int .i64 t.f, .slice a2 t.args.length c2])), ((true && !(!(o.lknows s))), .val (.bool ((o.lknows t)))), ((true && !(!(o.lknows s))), .val (.bool ((!(o.lknows t))))), (true, .val (.bool (((!(o.lknows s)) || (!(o.lknows t))))))] [(0, .agg #[.bool o.lpo, .slice p1 o.prec.length k1, .slice p2 o.weights.length k2, .int .i64 o.var]), (1, .agg #[.int .i64 s.f, .slice a s.args.length c]), (2, .agg #[.int .i64 t.f, .slice a2 t.args.length c2]), (3, .pointer (some ⟨g2, 0, none⟩)), (4, .pointer (some ⟨g9, 0, none⟩)), (5, .pointer (some ⟨g17, 0, none⟩)), (6, .int .i64 0)] ⟨rfl, rfl, rfl, rfl, rfl, rfl, rfl, trivial⟩ (by kernel_rfl) (by kernel_rfl) (by kernel_rfl) ?_ ?_
  · refine ⟨⟨true, .none rfl, fun h w => optUndef h, fun zβ za zw zc => ?_⟩, ?_⟩
    · exact ld_24 rfl (zc.kn.ev rfl) (bkeeps zc.below _ _ ((hB26.cell 0).trans rfl)) (bkeeps zc.below _ _ ((hB26.cell 1).trans rfl)) (bkeeps zc.below _ _ ((hB26.cell 2).trans rfl)) (bkeeps zc.below _ _ ((hB26.cell 3).trans rfl)) ⟨_, rfl, Below.refl _ _, optDef zβ rfl⟩
    refine ⟨⟨true, .none rfl, fun h w => optUndef h, fun zβ za zw zc => ?_⟩, ?_⟩
    · exact ld_27 rfl (zc.kn.ev rfl) (bkeeps zc.below _ _ ((hB28.cell 0).trans rfl)) (bkeeps zc.below _ _ ((hB28.cell 1).trans rfl)) ⟨_, rfl, Below.refl _ _, optDef zβ rfl⟩
    refine ⟨⟨true, .none rfl, fun h w => optUndef h, fun zβ za zw zc => ?_⟩, ?_⟩
    · exact wp_call (by kernel_rfl) rfl (hv2 ((show za.eval (.tmp 7) = za.tmps.getD 7 undef from rfl).trans (optVal (zc.dep 0 7 (by kernel_rfl)) rfl rfl)) ((show za.eval (.tmp 8) = za.tmps.getD 8 undef from rfl).trans (optVal (zc.dep 1 8 (by kernel_rfl)) rfl rfl))) (rlknows_any o s _ _ _ (ho0.below (bstep hb29 zc.below)) (IsT.below (bstep hb29 zc.below) hv0)) (fun v w' h => ⟨v, rfl, h.2, optDef zβ h.1⟩)
    refine ⟨⟨true, .none rfl, fun h w => optUndef h, fun zβ za zw zc => ?_⟩, ?_⟩
    · exact wp_not rfl ((show za.eval (.tmp 9) = za.tmps.getD 9 undef from rfl).trans (optVal (zc.dep 2 9 (by kernel_rfl)) rfl rfl)) ⟨_, rfl, Below.refl _ _, optDef zβ rfl⟩
    refine ⟨⟨true, .none rfl, fun h w => optUndef h, fun zβ za zw zc => ?_⟩, ?_⟩
    · exact wp_move rfl ((show za.eval (.tmp 10) = za.tmps.getD 10 undef from rfl).trans (optVal (zc.dep 3 10 (by kernel_rfl)) rfl rfl)) ⟨_, rfl, Below.refl _ _, optDef zβ rfl⟩
    refine ⟨⟨(true && !(!(o.lknows s))), .no (c := (!(o.lknows s))) (d := true) rfl (fun v w h => h), fun h w => optUndef h, fun zβ za zw zc => ?_⟩, ?_⟩
    · exact ld_24 rfl (zc.kn.ev rfl) (bkeeps zc.below _ _ ((hB26.cell 0).trans rfl)) (bkeeps zc.below _ _ ((hB26.cell 1).trans rfl)) (bkeeps zc.below _ _ ((hB26.cell 2).trans rfl)) (bkeeps zc.below _ _ ((hB26.cell 3).trans rfl)) ⟨_, rfl, Below.refl _ _, optDef zβ rfl⟩
    refine ⟨⟨(true && !(!(o.lknows s))), .no (c := (!(o.lknows s))) (d := true) rfl (fun v w h => h), fun h w => optUndef h, fun zβ za zw zc => ?_⟩, ?_⟩
    · exact ld_27 rfl (zc.kn.ev rfl) (bkeeps zc.below _ _ ((hB19.cell 0).trans rfl)) (bkeeps zc.below _ _ ((hB19.cell 1).trans rfl)) ⟨_, rfl, Below.refl _ _, optDef zβ rfl⟩
    refine ⟨⟨(true && !(!(o.lknows s))), .no (c := (!(o.lknows s))) (d := true) rfl (fun v w h => h), fun h w => optUndef h, fun zβ za zw zc => ?_⟩, ?_⟩
    · exact wp_call (by kernel_rfl) rfl (hv2 ((show za.eval (.tmp 12) = za.tmps.getD 12 undef from rfl).trans (optVal (zc.dep 5 12 (by kernel_rfl)) rfl zβ)) ((show za.eval (.tmp 13) = za.tmps.getD 13 undef from rfl).trans (optVal (zc.dep 6 13 (by kernel_rfl)) rfl zβ))) (rlknows_any o t _ _ _ (ho0.below (bstep hb29 zc.below)) (IsT.below (bstep hb29 zc.below) hu0)) (fun v w' h => ⟨v, rfl, h.2, optDef zβ h.1⟩)
    refine ⟨⟨(true && !(!(o.lknows s))), .no (c := (!(o.lknows s))) (d := true) rfl (fun v w h => h), fun h w => optUndef h, fun zβ za zw zc => ?_⟩, ?_⟩
    · exact wp_not rfl ((show za.eval (.tmp 14) = za.tmps.getD 14 undef from rfl).trans (optVal (zc.dep 7 14 (by kernel_rfl)) rfl zβ)) ⟨_, rfl, Below.refl _ _, optDef zβ rfl⟩
    refine ⟨⟨true, .none rfl, fun h w => optUndef h, fun zβ za zw zc => ?_⟩, ?_⟩
    · exact wp_or rfl ((show za.eval (.tmp 11) = za.tmps.getD 11 undef from rfl).trans (optVal (zc.dep 4 11 (by kernel_rfl)) rfl rfl)) (fun hp => ((show za.eval (.tmp 15) = za.tmps.getD 15 undef from rfl).trans (optVal (zc.dep 8 15 (by kernel_rfl)) rfl (bMkN zβ hp)))) ⟨_, rfl, Below.refl _ _, optDef zβ rfl⟩
    exact trivial
  · intro za w30 zh hb31 zu
    have zh := zh.cons (d := 16) (v := .bool (((!(o.lknows s)) || (!(o.lknows t))))) (optVal (zu 9 16 (by kernel_rfl)) rfl rfl)
    clear zu
    refine (show WE _ [(0, .agg #[.bool o.lpo, .slice p1 o.prec.length k1, .slice p2 o.weights.length k2, .int .i64 o.var]), (1, .agg #[.int .i64 s.f, .slice a s.args.length c]), (2, .agg #[.int .i64 t.f, .slice a2 t.args.length c2]), (3, .pointer (some ⟨g2, 0, none⟩)), (4, .pointer (some ⟨g9, 0, none⟩)), (5, .pointer (some ⟨g17, 0, none⟩)), (6, .int .i64 0), (16, .bool (((!(o.lknows s)) || (!(o.lknows t)))))] w30 _ .normal from ?_) za (zh.sub ⟨rfl, rfl, rfl, rfl, rfl, rfl, rfl, rfl, trivial⟩)
    refine WE.next ?_
    refine WC.cond rfl (fun h32 => ?_) (fun h32 => ?_)
    · have h32 : (¬ ((o.lknows s) = true)) ∨ (¬ ((o.lknows t) = true)) := by simpa using h32
      have hk1 : o.lknows s = false ∨ o.lknows t = false := by have z := h32; simpa using z
      refine WC.seq ?_
      refine WC.region ?_
      refine WL.val (.int .i64 0) rfl rfl rfl (fun za zC zh zk => wp_assign rfl (zh.ev rfl) zk) ?_
      refine WL.nil (WE.sub (K' := [(0, .agg #[.bool o.lpo, .slice p1 o.prec.length k1, .slice p2 o.weights.length k2, .int .i64 o.var]), (1, .agg #[.int .i64 s.f, .slice a s.args.length c]), (2, .agg #[.int .i64 t.f, .slice a2 t.args.length c2]), (3, .pointer (some ⟨g2, 0, none⟩)), (4, .pointer (some ⟨g9, 0, none⟩)), (5, .pointer (some ⟨g17, 0, none⟩)), (6, .int .i64 0), (16, .bool (((!(o.lknows s)) || (!(o.lknows t)))))]) ⟨rfl, rfl, rfl, rfl, rfl, rfl, rfl, rfl, trivial⟩ ?_)
      refine WE.next ?_
      refine WC.ret ?_
      refine WE.thenRet ?_
      refine WE.ret1 rfl rfl ?_
      have hb33 : Below w.heap.size w w30 := (bstep hb29 hb31)
      exact ⟨_, rfl, congrArg (Value.int .i64) (by first | (rcases hk1 with h | h <;> simp [Od.lcmp, h]; done) | simp [Od.lcmp, hk1.1, hk1.2, hk2, hk3, hk4]), hb33⟩
    · have h32 : ¬ ((¬ ((o.lknows s) = true)) ∨ (¬ ((o.lknows t) = true))) := by simpa using h32
      have hk1 : o.lknows s = true ∧ o.lknows t = true := by have z := h32; simpa using z
      refine WC.skip ?_
      refine WE.next ?_
      refine WC.seq ?_
      refine WC.seq ?_
      refine WC.region ?_
      have hB34 := hB28.below hb31
      refine WL.val (.agg #[.int .i64 s.f, .slice a s.args.length c]) rfl rfl rfl (fun za zC zh zk => ld_27 rfl (zh.ev rfl) ((hB34.cell 0).trans rfl) ((hB34.cell 1).trans rfl) zk) ?_
      have hB35 := hB19.below hb31
      refine WL.val (.agg #[.int .i64 t.f, .slice a2 t.args.length c2]) rfl rfl rfl (fun za zC zh zk => ld_27 rfl (zh.ev rfl) ((hB35.cell 0).trans rfl) ((hB35.cell 1).trans rfl) zk) ?_
      have hb36 : Below w.heap.size w w30 := (bstep hb29 hb31)
      refine WL.call rfl rfl rfl (fun za zh zC => wp_call (by kernel_rfl) rfl (hv2 (zh.ev rfl) (zh.ev rfl))) (ret_of (rsame_any s t _ _ _ (IsT.below hb36 hv0) (IsT.below hb36 hu0))) ?_
      rintro _ w37 ⟨rfl, hbs⟩
      refine WL.nil (WE.sub (K' := [(0, .agg #[.bool o.lpo, .slice p1 o.prec.length k1, .slice p2 o.weights.length k2, .int .i64 o.var]), (1, .agg #[.int .i64 s.f, .slice a s.args.length c]), (2, .agg #[.int .i64 t.f, .slice a2 t.args.length c2]), (3, .pointer (some ⟨g2, 0, none⟩)), (4, .pointer (some ⟨g9, 0, none⟩)), (5, .pointer (some ⟨g17, 0, none⟩)), (6, .int .i64 0), (16, .bool (((!(o.lknows s)) || (!(o.lknows t))))), (19, .bool ((T.same s t)))]) ⟨rfl, rfl, rfl, rfl, rfl, rfl, rfl, rfl, rfl, trivial⟩ ?_)
      refine WE.next ?_
      refine WC.cond rfl (fun h38 => ?_) (fun h38 => ?_)
      · skip
        have hk2 : T.same s t = true := by have z := h38; simpa using z
        refine WC.seq ?_
        refine WC.region ?_
        refine WL.val (.int .i64 2) rfl rfl rfl (fun za zC zh zk => wp_assign rfl (zh.ev rfl) zk) ?_
        refine WL.nil (WE.sub (K' := [(0, .agg #[.bool o.lpo, .slice p1 o.prec.length k1, .slice p2 o.weights.length k2, .int .i64 o.var]), (1, .agg #[.int .i64 s.f, .slice a s.args.length c]), (2, .agg #[.int .i64 t.f, .slice a2 t.args.length c2]), (3, .pointer (some ⟨g2, 0, none⟩)), (4, .pointer (some ⟨g9, 0, none⟩)), (5, .pointer (some ⟨g17, 0, none⟩)), (6, .int .i64 2), (16, .bool (((!(o.lknows s)) || (!(o.lknows t))))), (19, .bool ((T.same s t)))]) ⟨rfl, rfl, rfl, rfl, rfl, rfl, rfl, rfl, rfl, trivial⟩ ?_)
        refine WE.next ?_
        refine WC.ret ?_
        refine WE.thenRet ?_
        refine WE.ret1 rfl rfl ?_
        have hb39 : Below w.heap.size w w37 := (bstep hb36 hbs)
        exact ⟨_, rfl, congrArg (Value.int .i64) (by simp [Od.lcmp, hk1.1, hk1.2, hk2]), hb39⟩
      · skip
        have hk2 : T.same s t = false := by have z := h38; simpa using z
        refine WC.skip ?_
        refine WE.next ?_
        refine WC.seq ?_
        refine WC.seq ?_
        refine WC.region ?_
        have hb41 : Below w16.heap.size w16 w37 := (bstep hb31 hbs)
        have hB40 := hB26.below hb41
        refine WL.val (.agg #[.bool o.lpo, .slice p1 o.prec.length k1, .slice p2 o.weights.length k2, .int .i64 o.var]) rfl rfl rfl (fun za zC zh zk => ld_24 rfl (zh.ev rfl) ((hB40.cell 0).trans rfl) ((hB40.cell 1).trans rfl) ((hB40.cell 2).trans rfl) ((hB40.cell 3).trans rfl) zk) ?_
        have hB42 := hB34.below hbs
        refine WL.val (.agg #[.int .i64 s.f, .slice a s.args.length c]) rfl rfl rfl (fun za zC zh zk => ld_27 rfl (zh.ev rfl) ((hB42.cell 0).trans rfl) ((hB42.cell 1).trans rfl) zk) ?_
        have hB43 := hB35.below hbs
        refine WL.val (.agg #[.int .i64 t.f, .slice a2 t.args.length c2]) rfl rfl rfl (fun za zC zh zk => ld_27 rfl (zh.ev rfl) ((hB43.cell 0).trans rfl) ((hB43.cell 1).trans rfl) zk) ?_
        have hb44 : Below w.heap.size w w37 := (bstep hb29 hb41)
        refine WL.call rfl rfl rfl (fun za zh zC => wp_call (by kernel_rfl) rfl (hv3 (zh.ev rfl) (zh.ev rfl) (zh.ev rfl))) (rover_any o s t _ _ _ _ hk1.1 hk1.2 h1 h2 (ho0.below hb44) (IsT.below hb44 hv0) (IsT.below hb44 hu0)) ?_
        rintro _ w45 ⟨rfl, hbo⟩
        refine WL.nil (WE.sub (K' := [(0, .agg #[.bool o.lpo, .slice p1 o.prec.length k1, .slice p2 o.weights.length k2, .int .i64 o.var]), (1, .agg #[.int .i64 s.f, .slice a s.args.length c]), (2, .agg #[.int .i64 t.f, .slice a2 t.args.length c2]), (3, .pointer (some ⟨g2, 0, none⟩)), (4, .pointer (some ⟨g9, 0, none⟩)), (5, .pointer (some ⟨g17, 0, none⟩)), (6, .int .i64 0), (16, .bool (((!(o.lknows s)) || (!(o.lknows t))))), (19, .bool ((T.same s t))), (23, .bool ((o.lg s t)))]) ⟨rfl, rfl, rfl, rfl, rfl, rfl, rfl, rfl, rfl, rfl, trivial⟩ ?_)
        refine WE.next ?_
        refine WC.cond rfl (fun h46 => ?_) (fun h46 => ?_)
        · skip
          have hk3 : o.lg s t = true := by have z := h46; simpa using z
          refine WC.seq ?_
          refine WC.region ?_
          refine WL.val (.int .i64 3) rfl rfl rfl (fun za zC zh zk => wp_assign rfl (zh.ev rfl) zk) ?_
          refine WL.nil (WE.sub (K' := [(0, .agg #[.bool o.lpo, .slice p1 o.prec.length k1, .slice p2 o.weights.length k2, .int .i64 o.var]), (1, .agg #[.int .i64 s.f, .slice a s.args.length c]), (2, .agg #[.int .i64 t.f, .slice a2 t.args.length c2]), (3, .pointer (some ⟨g2, 0, none⟩)), (4, .pointer (some ⟨g9, 0, none⟩)), (5, .pointer (some ⟨g17, 0, none⟩)), (6, .int .i64 3), (16, .bool (((!(o.lknows s)) || (!(o.lknows t))))), (19, .bool ((T.same s t))), (23, .bool ((o.lg s t)))]) ⟨rfl, rfl, rfl, rfl, rfl, rfl, rfl, rfl, rfl, rfl, trivial⟩ ?_)
          refine WE.next ?_
          refine WC.ret ?_
          refine WE.thenRet ?_
          refine WE.ret1 rfl rfl ?_
          have hb47 : Below w.heap.size w w45 := (bstep hb44 hbo)
          exact ⟨_, rfl, congrArg (Value.int .i64) (by simp [Od.lcmp, hk1.1, hk1.2, hk2, hk3]), hb47⟩
        · skip
          have hk3 : o.lg s t = false := by have z := h46; simpa using z
          refine WC.skip ?_
          refine WE.next ?_
          refine WC.seq ?_
          refine WC.seq ?_
          refine WC.region ?_
          have hB48 := hB40.below hbo
          refine WL.val (.agg #[.bool o.lpo, .slice p1 o.prec.length k1, .slice p2 o.weights.length k2, .int .i64 o.var]) rfl rfl rfl (fun za zC zh zk => ld_24 rfl (zh.ev rfl) ((hB48.cell 0).trans rfl) ((hB48.cell 1).trans rfl) ((hB48.cell 2).trans rfl) ((hB48.cell 3).trans rfl) zk) ?_
          have hB49 := hB43.below hbo
          refine WL.val (.agg #[.int .i64 t.f, .slice a2 t.args.length c2]) rfl rfl rfl (fun za zC zh zk => ld_27 rfl (zh.ev rfl) ((hB49.cell 0).trans rfl) ((hB49.cell 1).trans rfl) zk) ?_
          have hB50 := hB42.below hbo
          refine WL.val (.agg #[.int .i64 s.f, .slice a s.args.length c]) rfl rfl rfl (fun za zC zh zk => ld_27 rfl (zh.ev rfl) ((hB50.cell 0).trans rfl) ((hB50.cell 1).trans rfl) zk) ?_
          have hb51 : Below w.heap.size w w45 := (bstep hb44 hbo)
          refine WL.call rfl rfl rfl (fun za zh zC => wp_call (by kernel_rfl) rfl (hv3 (zh.ev rfl) (zh.ev rfl) (zh.ev rfl))) (rover_any o t s _ _ _ _ hk1.2 hk1.1 h2 h1 (ho0.below hb51) (IsT.below hb51 hu0) (IsT.below hb51 hv0)) ?_
          rintro _ w52 ⟨rfl, hbo⟩
          refine WL.nil (WE.sub (K' := [(0, .agg #[.bool o.lpo, .slice p1 o.prec.length k1, .slice p2 o.weights.length k2, .int .i64 o.var]), (1, .agg #[.int .i64 s.f, .slice a s.args.length c]), (2, .agg #[.int .i64 t.f, .slice a2 t.args.length c2]), (3, .pointer (some ⟨g2, 0, none⟩)), (4, .pointer (some ⟨g9, 0, none⟩)), (5, .pointer (some ⟨g17, 0, none⟩)), (6, .int .i64 0), (16, .bool (((!(o.lknows s)) || (!(o.lknows t))))), (19, .bool ((T.same s t))), (23, .bool ((o.lg s t))), (27, .bool ((o.lg t s)))]) ⟨rfl, rfl, rfl, rfl, rfl, rfl, rfl, rfl, rfl, rfl, rfl, trivial⟩ ?_)
          refine WE.next ?_
          refine WC.cond rfl (fun h53 => ?_) (fun h53 => ?_)
          · skip
            have hk4 : o.lg t s = true := by have z := h53; simpa using z
            refine WC.seq ?_
            refine WC.region ?_
            refine WL.val (.int .i64 1) rfl rfl rfl (fun za zC zh zk => wp_assign rfl (zh.ev rfl) zk) ?_
            refine WL.nil (WE.sub (K' := [(0, .agg #[.bool o.lpo, .slice p1 o.prec.length k1, .slice p2 o.weights.length k2, .int .i64 o.var]), (1, .agg #[.int .i64 s.f, .slice a s.args.length c]), (2, .agg #[.int .i64 t.f, .slice a2 t.args.length c2]), (3, .pointer (some ⟨g2, 0, none⟩)), (4, .pointer (some ⟨g9, 0, none⟩)), (5, .pointer (some ⟨g17, 0, none⟩)), (6, .int .i64 1), (16, .bool (((!(o.lknows s)) || (!(o.lknows t))))), (19, .bool ((T.same s t))), (23, .bool ((o.lg s t))), (27, .bool ((o.lg t s)))]) ⟨rfl, rfl, rfl, rfl, rfl, rfl, rfl, rfl, rfl, rfl, rfl, trivial⟩ ?_)
            refine WE.next ?_
            refine WC.ret ?_
            refine WE.thenRet ?_
            refine WE.ret1 rfl rfl ?_
            have hb54 : Below w.heap.size w w52 := (bstep hb51 hbo)
            exact ⟨_, rfl, congrArg (Value.int .i64) (by simp [Od.lcmp, hk1.1, hk1.2, hk2, hk3, hk4]), hb54⟩
          · skip
            have hk4 : o.lg t s = false := by have z := h53; simpa using z
            refine WC.skip ?_
            refine WE.next ?_
            refine WC.seq ?_
            refine WC.region ?_
            refine WL.val (.int .i64 0) rfl rfl rfl (fun za zC zh zk => wp_assign rfl (zh.ev rfl) zk) ?_
            refine WL.nil (WE.sub (K' := [(0, .agg #[.bool o.lpo, .slice p1 o.prec.length k1, .slice p2 o.weights.length k2, .int .i64 o.var]), (1, .agg #[.int .i64 s.f, .slice a s.args.length c]), (2, .agg #[.int .i64 t.f, .slice a2 t.args.length c2]), (3, .pointer (some ⟨g2, 0, none⟩)), (4, .pointer (some ⟨g9, 0, none⟩)), (5, .pointer (some ⟨g17, 0, none⟩)), (6, .int .i64 0), (16, .bool (((!(o.lknows s)) || (!(o.lknows t))))), (19, .bool ((T.same s t))), (23, .bool ((o.lg s t))), (27, .bool ((o.lg t s)))]) ⟨rfl, rfl, rfl, rfl, rfl, rfl, rfl, rfl, rfl, rfl, rfl, trivial⟩ ?_)
            refine WE.next ?_
            refine WC.ret ?_
            refine WE.ret1 rfl rfl ?_
            have hb55 : Below w.heap.size w w52 := (bstep hb51 hbo)
            exact ⟨_, rfl, congrArg (Value.int .i64) (by first | (rcases hk1 with h | h <;> simp [Od.lcmp, h]; done) | simp [Od.lcmp, hk1.1, hk1.2, hk2, hk3, hk4]), hb55⟩

end Go.Proofs.Ytlkiabgpnboicaa
