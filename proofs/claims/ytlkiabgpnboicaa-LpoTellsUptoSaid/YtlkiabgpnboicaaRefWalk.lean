/- The lexicographic path order of the document: the walks of its parts. -/
import Derived.Test.YtlkiabgpnboicaaRefSt
import Derived.Test.YtlkiabgpnboicaaLpoWalk2
import Derived.Test.YtlkiabgpnboicaaSame
namespace Go.Proofs.Ytlkiabgpnboicaa
open Go.RowKit Go

theorem lg_tvar {o : Od} {s t : T} (h : ¬ s.f < 0) (h' : t.f < 0) : T.has t.f s = o.lg s t := by rw [Od.lg_eq, Od.lstep, if_neg h, if_pos h']
theorem lg_hit {o : Od} {s t : T} (h : ¬ s.f < 0) (h' : ¬ t.f < 0) (ha : s.args.any (fun a => T.same a t || o.lg a t) = true) : true = o.lg s t := by rw [Od.lg_eq, Od.lstep, if_neg h, if_neg h', ha]; rfl
theorem lg_rest {o : Od} {s t : T} (h : ¬ s.f < 0) (h' : ¬ t.f < 0) (ha : s.args.any (fun a => T.same a t || o.lg a t) = false) : o.lg s t = if s.f ≠ t.f then decide (o.rank t.f < o.rank s.f) && t.args.all (o.lg s) else t.args.all (o.lg s) && lexR o.lg s.args t.args := by rw [Od.lg_eq, Od.lstep, if_neg h, if_neg h', ha, Bool.false_or]
theorem lex_at {R : T → T → Bool} {l q : List T} {k : Nat} {u v : T} (hlex : lexR R l q = lexR R (l.drop k) (q.drop k)) (h : k < l.length) (h' : k < q.length) (hx : T.same (tget l k) (tget q k) = false) (hu : u = tget l k) (hv : v = tget q k) : R u v = lexR R l q := lex_hit (c := true) rfl hlex h h' hx hu hv
theorem lex_fin {R : T → T → Bool} {l q : List T} {k m n : Nat} (hlex : lexR R l q = lexR R (l.drop k) (q.drop k)) (hm : m = l.length) (hn : n = q.length) (h : k = min l.length q.length) : decide ((n : Int) < (m : Int)) = lexR R l q := lex_end (c := true) rfl hlex hm hn h

set_option maxRecDepth 100000 in
set_option maxHeartbeats 1000000 in
theorem rall_any (o : Od) (L1 L2 : List Nd) (q : RefQ) (w0 wa : World) (n : Nat) (hH : LpoH o L1 L2) (hA : RAboveOK o L1 L2 q w0 wa n) (i k : Nat) (E : Nat → Nat → Prop) (w : World) (hi : i < L1.length) (hk : k < L2.length) (hz : (ndget L1 i).t.size + (ndget L2 k).t.size ≤ n + 1) (hE : ∀ a b, E a b → (ndget L1 i).t.size + (ndget L2 k).t.size ≤ nsz L1 L2 a b) (hst : RefSt o L1 L2 q w0 wa E w) :
    Calls Try.prog 55 #[.pointer (some ⟨q.gw, 0, none⟩), .int .i64 (i : Int), .int .i64 (k : Int)] w (Ret fun v' w' => v' = .bool ((ndget L2 k).t.args.all (o.lg (ndget L1 i).t)) ∧ RefSt o L1 L2 q w0 wa E w' ∧ Chg (fun b => q.lo ≤ b ∧ b ≤ q.hi) w w') := by
  have hg1 := (hH.g1 i hi).1
  have hg2 := (hH.g2 k hk).1
  have hz1 := hH.z1 i hi
  have hz2 := hH.z2 k hk
  have ha1 := args_le (ndget L1 i).t
  have ha2 := args_le (ndget L2 k).t
  have hf1 := (hst.n1.t i hi).form.1.1
  have hf1' := (hst.n1.t i hi).form.1.2
  have hf2 := (hst.n2.t k hk).form.1.1
  have hf2' := (hst.n2.t k hk).form.1.2
  have hp1 := (lknows_top (hH.k1 i hi)).1
  have hp2 := (lknows_top (hH.k2 k hk)).1
  have hst0 := hst
  obtain ⟨hl1, hl2, hl3, hl4⟩ := hst.glt
  refine Calls.walk (l := [.pointer (some ⟨q.gw, 0, none⟩), .int .i64 (((i : Nat) : Int)), .int .i64 (((k : Nat) : Int))]) Try.func55 rfl (by kernel_rfl) ?_
  refine WC.sub (K' := [(0, .pointer (some ⟨q.gw, 0, none⟩)), (1, .int .i64 (((i : Nat) : Int))), (2, .int .i64 (((k : Nat) : Int)))]) ⟨rfl, rfl, rfl, trivial⟩ ?_
  refine WC.seq ?_
  refine WC.region ?_
  refine WL.val (.bool false) rfl rfl rfl (fun za zC zh zk => wp_assign rfl (zh.ev rfl) zk) ?_
  refine WL.nil (WE.sub (K' := [(0, .pointer (some ⟨q.gw, 0, none⟩)), (1, .int .i64 (((i : Nat) : Int))), (2, .int .i64 (((k : Nat) : Int))), (6, .bool false)]) ⟨rfl, rfl, rfl, rfl, trivial⟩ ?_)
  refine WE.next ?_
  refine WC.seq ?_
  refine WC.seq ?_
  refine WC.region ?_
  refine WL.val (.int .i64 0) rfl rfl rfl (fun za zC zh zk => wp_assign rfl (zh.ev rfl) zk) ?_
  refine WL.nil (WE.sub (K' := [(0, .pointer (some ⟨q.gw, 0, none⟩)), (1, .int .i64 (((i : Nat) : Int))), (2, .int .i64 (((k : Nat) : Int))), (6, .bool false), (7, .int .i64 0)]) ⟨rfl, rfl, rfl, rfl, rfl, trivial⟩ ?_)
  refine WE.next ?_
  refine WC.block ?_
  refine WC.loop (X := Nat) (fun j => (ndget L2 k).args.length - j) (fun j => [(0, .pointer (some ⟨q.gw, 0, none⟩)), (1, .int .i64 (((i : Nat) : Int))), (2, .int .i64 (((k : Nat) : Int))), (7, .int .i64 (((j : Nat) : Int)))]) (fun j w1 => j ≤ (ndget L2 k).args.length ∧ ((ndget L2 k).t.args.take j).all (o.lg (ndget L1 i).t) = true ∧ RefSt o L1 L2 q w0 wa E w1 ∧ Below w0.heap.size w0 w1 ∧ Blk w1 q.gw 67 #[.bool o.lpo, .slice q.p1 o.prec.length q.k1, .slice q.p2 o.weights.length q.k2, .int .i64 o.var, .slice ((some ⟨q.b1, 0, none⟩)) L1.length q.r1, .slice ((some ⟨q.b2, 0, none⟩)) L2.length q.r2, .slice ((some ⟨q.fb, 0, none⟩)) L1.length q.fc] ∧ Chg ((fun b => q.lo ≤ b ∧ b ≤ q.hi)) w w1) 0 ⟨rfl, rfl, rfl, rfl, trivial⟩ ?_ ?_
  · have hs2 : Chg ((fun b => q.lo ≤ b ∧ b ≤ q.hi)) w w := (Chg.refl ((fun b => q.lo ≤ b ∧ b ≤ q.hi)) _)
    exact ⟨Nat.zero_le _, rfl, hst, hst.below, hst.blk, hs2⟩
  · rintro j w1 ⟨hj, hall, hstl, hb3, hB4, hc5⟩
    obtain ⟨hl6, hl7, hl8, hl9⟩ := hstl.glt
    refine WC.seq ?_
    refine WC.seq ?_
    refine WC.region ?_
    refine WL.val (.int .i64 (((j : Nat) : Int))) rfl rfl rfl (fun za zC zh zk => wp_move rfl (zh.ev rfl) zk) ?_
    refine WL.val (.pointer (some ⟨q.gw, 0, none⟩)) rfl rfl rfl (fun za zC zh zk => wp_move rfl (zh.ev rfl) zk) ?_
    refine WL.val (.pointer (some ⟨q.gw, 0, none⟩)) rfl rfl rfl (fun za zC zh zk => nilCheck_ rfl (zh.ev rfl) zk) ?_
    refine WL.val (.pointer (some ⟨q.gw, 5, none⟩)) rfl rfl rfl (fun za zC zh zk => fld_67_2 rfl (zh.ev rfl) zk) ?_
    refine WL.val (.slice ((some ⟨q.b2, 0, none⟩)) L2.length q.r2) rfl rfl rfl (fun za zC zh zk => ld_63 rfl (zh.ev rfl) ((hB4.cell 5).trans rfl) zk) ?_
    refine WL.val (.int .i64 (((k : Nat) : Int))) rfl rfl rfl (fun za zC zh zk => wp_move rfl (zh.ev rfl) zk) ?_
    refine WL.val (.pointer (some ⟨q.b2, 0 + k * 3, none⟩)) rfl rfl rfl (fun za zC zh zk => ix_63 (k := k) rfl (zh.ev rfl) rfl (zh.ev rfl) (by first | omega | (simp; omega)) zk) ?_
    refine WL.val (.pointer (some ⟨q.b2, 0 + k * 3 + 2, none⟩)) rfl rfl rfl (fun za zC zh zk => fld_84_1 rfl (zh.ev rfl) zk) ?_
    refine WL.val (.slice ((q.X2 k)) ((ndget L2 k).args.length) ((q.Z2 k))) rfl rfl rfl (fun za zC zh zk => ld_22 rfl (zh.ev rfl) (hstl.n2.c2 k (by first | omega | (simp; omega))) zk) ?_
    refine WL.val (.int .i64 ((((ndget L2 k).args.length : Nat) : Int))) rfl rfl rfl (fun za zC zh zk => len_22 rfl (zh.ev rfl) zk) ?_
    refine WL.val (.bool ((decide ((((j : Nat) : Int) : Int) < ((((ndget L2 k).args.length : Nat) : Int) : Int))))) rfl rfl rfl (fun za zC zh zk => lss_3 rfl (zh.ev rfl) (zh.ev rfl) zk) ?_
    refine WL.nil (WE.sub (K' := [(0, .pointer (some ⟨q.gw, 0, none⟩)), (1, .int .i64 (((i : Nat) : Int))), (2, .int .i64 (((k : Nat) : Int))), (7, .int .i64 (((j : Nat) : Int))), (18, .bool ((decide ((((j : Nat) : Int) : Int) < ((((ndget L2 k).args.length : Nat) : Int) : Int)))))]) ⟨rfl, rfl, rfl, rfl, rfl, trivial⟩ ?_)
    refine WE.next ?_
    refine WC.cond rfl (fun h10 => ?_) (fun h10 => ?_)
    · have h10 : (((j : Nat) : Int) : Int) < ((((ndget L2 k).args.length : Nat) : Int) : Int) := by simpa using h10
      refine WC.skip ?_
      refine WE.next ?_
      refine WC.seq ?_
      refine WC.block ?_
      refine WC.seq ?_
      refine WC.region ?_
      refine WL.val (.pointer (some ⟨q.gw, 0, none⟩)) rfl rfl rfl (fun za zC zh zk => wp_move rfl (zh.ev rfl) zk) ?_
      refine WL.val (.int .i64 (((i : Nat) : Int))) rfl rfl rfl (fun za zC zh zk => wp_move rfl (zh.ev rfl) zk) ?_
      refine WL.val (.pointer (some ⟨q.gw, 0, none⟩)) rfl rfl rfl (fun za zC zh zk => wp_move rfl (zh.ev rfl) zk) ?_
      refine WL.val (.pointer (some ⟨q.gw, 0, none⟩)) rfl rfl rfl (fun za zC zh zk => nilCheck_ rfl (zh.ev rfl) zk) ?_
      refine WL.val (.pointer (some ⟨q.gw, 5, none⟩)) rfl rfl rfl (fun za zC zh zk => fld_67_2 rfl (zh.ev rfl) zk) ?_
      refine WL.val (.slice ((some ⟨q.b2, 0, none⟩)) L2.length q.r2) rfl rfl rfl (fun za zC zh zk => ld_63 rfl (zh.ev rfl) ((hB4.cell 5).trans rfl) zk) ?_
      refine WL.val (.int .i64 (((k : Nat) : Int))) rfl rfl rfl (fun za zC zh zk => wp_move rfl (zh.ev rfl) zk) ?_
      refine WL.val (.pointer (some ⟨q.b2, 0 + k * 3, none⟩)) rfl rfl rfl (fun za zC zh zk => ix_63 (k := k) rfl (zh.ev rfl) rfl (zh.ev rfl) (by first | omega | (simp; omega)) zk) ?_
      refine WL.val (.pointer (some ⟨q.b2, 0 + k * 3 + 2, none⟩)) rfl rfl rfl (fun za zC zh zk => fld_84_1 rfl (zh.ev rfl) zk) ?_
      refine WL.val (.slice ((q.X2 k)) ((ndget L2 k).args.length) ((q.Z2 k))) rfl rfl rfl (fun za zC zh zk => ld_22 rfl (zh.ev rfl) (hstl.n2.c2 k (by first | omega | (simp; omega))) zk) ?_
      refine WL.val (.int .i64 (((j : Nat) : Int))) rfl rfl rfl (fun za zC zh zk => wp_move rfl (zh.ev rfl) zk) ?_
      refine WL.val (.pointer (some ⟨(q.x2 k), 0 + j, none⟩)) rfl rfl rfl (fun za zC zh zk => ix_22 (k := j) rfl (zh.ev rfl) (hst0.n2.x k j (by omega) (by first | omega | (simp; omega))).1 (zh.ev rfl) (by first | omega | (simp; omega)) zk) ?_
      refine WL.val (.int .i64 (((((ndget L2 k).args.getD j 0) : Nat) : Int))) rfl rfl rfl (fun za zC zh zk => ld_3 rfl (zh.ev rfl) (hstl.n2.x k j (by omega) (by first | omega | (simp; omega))).2 zk) ?_
      have hch := nd_child (hH.g2 k hk) (j := j) (by omega)
      have hcs := size_child (t := (ndget L2 k).t) (k := j) (by omega)
      have hce := congrArg T.size hch.2
      refine WL.call rfl rfl rfl (fun za zh zC => wp_call (by kernel_rfl) rfl (hv3 (zh.ev rfl) (zh.ev rfl) (zh.ev rfl))) (hA i (((ndget L2 k).args.getD j 0)) E _ (by omega) (by omega) (by omega) (fun a b h => by have := hE a b h; omega) hstl) ?_
      rintro _ w13 ⟨rfl, hst11, hc12⟩
      have hl14 := hB4.lt
      have hb15 := chg_below hb3 hc12 (fun b hb => (by (try dsimp only at *); omega))
      have hB16 := chg_blk hB4 hc12 (by (try dsimp only at *); omega)
      obtain ⟨hl17, hl18, hl19, hl20⟩ := hst11.glt
      refine WL.val (.bool ((!(o.lg (ndget L1 i).t (ndget L2 (((ndget L2 k).args.getD j 0))).t)))) rfl rfl rfl (fun za zC zh zk => wp_not rfl (zh.ev rfl) zk) ?_
      refine WL.nil (WE.sub (K' := [(0, .pointer (some ⟨q.gw, 0, none⟩)), (1, .int .i64 (((i : Nat) : Int))), (2, .int .i64 (((k : Nat) : Int))), (7, .int .i64 (((j : Nat) : Int))), (18, .bool ((decide ((((j : Nat) : Int) : Int) < ((((ndget L2 k).args.length : Nat) : Int) : Int))))), (35, .bool ((!(o.lg (ndget L1 i).t (ndget L2 (((ndget L2 k).args.getD j 0))).t))))]) ⟨rfl, rfl, rfl, rfl, rfl, rfl, trivial⟩ ?_)
      refine WE.next ?_
      refine WC.cond rfl (fun h21 => ?_) (fun h21 => ?_)
      · have h21 : ¬ ((o.lg (ndget L1 i).t (ndget L2 (((ndget L2 k).args.getD j 0))).t) = true) := by simpa using h21
        refine WC.seq ?_
        refine WC.region ?_
        refine WL.val (.bool false) rfl rfl rfl (fun za zC zh zk => wp_assign rfl (zh.ev rfl) zk) ?_
        refine WL.nil (WE.sub (K' := [(0, .pointer (some ⟨q.gw, 0, none⟩)), (1, .int .i64 (((i : Nat) : Int))), (2, .int .i64 (((k : Nat) : Int))), (6, .bool false), (7, .int .i64 (((j : Nat) : Int))), (18, .bool ((decide ((((j : Nat) : Int) : Int) < ((((ndget L2 k).args.length : Nat) : Int) : Int))))), (35, .bool ((!(o.lg (ndget L1 i).t (ndget L2 (((ndget L2 k).args.getD j 0))).t))))]) ⟨rfl, rfl, rfl, rfl, rfl, rfl, rfl, trivial⟩ ?_)
        refine WE.next ?_
        refine WC.ret ?_
        refine WE.blockRet ?_
        refine WE.thenRet ?_
        refine WE.thenRet ?_
        refine WE.blockRet ?_
        refine WE.thenRet ?_
        refine WE.ret1 rfl rfl ?_
        have hs22 : Chg ((fun b => q.lo ≤ b ∧ b ≤ q.hi)) w w13 := (Chg.trans2 (Chg.trans2 (Chg.refl ((fun b => q.lo ≤ b ∧ b ≤ q.hi)) _) hc5 (fun i h1 h2 => by (try dsimp only at *); omega)) hc12 (fun i h1 h2 => by (try dsimp only at *); omega))
        exact ⟨_, rfl, congrArg Value.bool (all_no (by omega) hch.2 (by simpa using h21)), hst11, hs22⟩
      · have h21 : ¬ (¬ ((o.lg (ndget L1 i).t (ndget L2 (((ndget L2 k).args.getD j 0))).t) = true)) := by simpa using h21
        refine WC.skip ?_
        refine WE.blockNormal ?_
        refine WE.next ?_
        refine WC.region ?_
        refine WL.val (.int .i64 (((j : Nat) : Int))) rfl rfl rfl (fun za zC zh zk => wp_move rfl (zh.ev rfl) zk) ?_
        refine WL.val (.int .i64 ((((j + 1) : Nat) : Int))) rfl rfl rfl (fun za zC zh zk => addb_3 rfl (zh.ev rfl) (zh.ev rfl) (wrap_eq (by omega) (by omega) (by omega)) zk) ?_
        refine WL.val (.int .i64 ((((j + 1) : Nat) : Int))) rfl rfl rfl (fun za zC zh zk => wp_assign rfl (zh.ev rfl) zk) ?_
        refine WL.nil (WE.sub (K' := [(0, .pointer (some ⟨q.gw, 0, none⟩)), (1, .int .i64 (((i : Nat) : Int))), (2, .int .i64 (((k : Nat) : Int))), (7, .int .i64 ((((j + 1) : Nat) : Int))), (18, .bool ((decide ((((j : Nat) : Int) : Int) < ((((ndget L2 k).args.length : Nat) : Int) : Int))))), (35, .bool ((!(o.lg (ndget L1 i).t (ndget L2 (((ndget L2 k).args.getD j 0))).t))))]) ⟨rfl, rfl, rfl, rfl, rfl, rfl, trivial⟩ ?_)
        refine WE.round (j + 1) ⟨rfl, rfl, rfl, rfl, trivial⟩ ?_ ?_
        · have hs23 : Chg ((fun b => q.lo ≤ b ∧ b ≤ q.hi)) w w13 := (Chg.trans2 (Chg.trans2 (Chg.refl ((fun b => q.lo ≤ b ∧ b ≤ q.hi)) _) hc5 (fun i h1 h2 => by (try dsimp only at *); omega)) hc12 (fun i h1 h2 => by (try dsimp only at *); omega))
          exact ⟨by omega, lstep_all (by omega) hch.2 hall (by simpa using h21), hst11, hb15, hB16, hs23⟩
        · omega
    · have h10 : ¬ ((((j : Nat) : Int) : Int) < ((((ndget L2 k).args.length : Nat) : Int) : Int)) := by simpa using h10
      refine WC.exit ?_
      refine WE.thenExit ?_
      refine WE.thenExit ?_
      refine WE.blockIs rfl ?_
      refine WE.next ?_
      refine WC.seq ?_
      refine WC.region ?_
      refine WL.val (.bool true) rfl rfl rfl (fun za zC zh zk => wp_assign rfl (zh.ev rfl) zk) ?_
      refine WL.nil (WE.sub (K' := [(0, .pointer (some ⟨q.gw, 0, none⟩)), (1, .int .i64 (((i : Nat) : Int))), (2, .int .i64 (((k : Nat) : Int))), (6, .bool true), (7, .int .i64 (((j : Nat) : Int))), (18, .bool ((decide ((((j : Nat) : Int) : Int) < ((((ndget L2 k).args.length : Nat) : Int) : Int)))))]) ⟨rfl, rfl, rfl, rfl, rfl, rfl, trivial⟩ ?_)
      refine WE.next ?_
      refine WC.ret ?_
      refine WE.ret1 rfl rfl ?_
      have hs24 : Chg ((fun b => q.lo ≤ b ∧ b ≤ q.hi)) w w1 := (Chg.trans2 (Chg.refl ((fun b => q.lo ≤ b ∧ b ≤ q.hi)) _) hc5 (fun i h1 h2 => by (try dsimp only at *); omega))
      exact ⟨_, rfl, congrArg Value.bool (all_yes (by omega) hall), hstl, hs24⟩

set_option maxRecDepth 100000 in
set_option maxHeartbeats 1000000 in
theorem rask_any (o : Od) (L1 L2 : List Nd) (q : RefQ) (w0 wa : World) (n : Nat) (hH : LpoH o L1 L2) (hA : RAboveOK o L1 L2 q w0 wa n) (i k : Nat) (E : Nat → Nat → Prop) (w : World) (hi : i < L1.length) (hk : k < L2.length) (hz : (ndget L1 i).t.size + (ndget L2 k).t.size ≤ n + 1) (hE : ∀ a b, E a b → (ndget L1 i).t.size + (ndget L2 k).t.size ≤ nsz L1 L2 a b) (hst : RefSt o L1 L2 q w0 wa E w) :
    Calls Try.prog 44 #[.pointer (some ⟨q.gw, 0, none⟩), .int .i64 (i : Int), .int .i64 (k : Int)] w (Ret fun v' w' => v' = .bool (o.lg (ndget L1 i).t (ndget L2 k).t) ∧ RefSt o L1 L2 q w0 wa E w' ∧ Chg (fun b => q.lo ≤ b ∧ b ≤ q.hi) w w') := by
  have hg1 := (hH.g1 i hi).1
  have hg2 := (hH.g2 k hk).1
  have hz1 := hH.z1 i hi
  have hz2 := hH.z2 k hk
  have ha1 := args_le (ndget L1 i).t
  have ha2 := args_le (ndget L2 k).t
  have hf1 := (hst.n1.t i hi).form.1.1
  have hf1' := (hst.n1.t i hi).form.1.2
  have hf2 := (hst.n2.t k hk).form.1.1
  have hf2' := (hst.n2.t k hk).form.1.2
  have hp1 := (lknows_top (hH.k1 i hi)).1
  have hp2 := (lknows_top (hH.k2 k hk)).1
  have hst0 := hst
  obtain ⟨hl1, hl2, hl3, hl4⟩ := hst.glt
  refine Calls.walk (l := [.pointer (some ⟨q.gw, 0, none⟩), .int .i64 (((i : Nat) : Int)), .int .i64 (((k : Nat) : Int))]) Try.func44 rfl (by kernel_rfl) ?_
  refine WC.sub (K' := [(0, .pointer (some ⟨q.gw, 0, none⟩)), (1, .int .i64 (((i : Nat) : Int))), (2, .int .i64 (((k : Nat) : Int)))]) ⟨rfl, rfl, rfl, trivial⟩ ?_
  refine WC.seq ?_
  refine WC.region ?_
  refine WL.val (.bool false) rfl rfl rfl (fun za zC zh zk => wp_assign rfl (zh.ev rfl) zk) ?_
  refine WL.nil (WE.sub (K' := [(0, .pointer (some ⟨q.gw, 0, none⟩)), (1, .int .i64 (((i : Nat) : Int))), (2, .int .i64 (((k : Nat) : Int))), (6, .bool false)]) ⟨rfl, rfl, rfl, rfl, trivial⟩ ?_)
  refine WE.next ?_
  refine WC.seq ?_
  refine WC.two [(true, .pointer (some ⟨q.gw, 0, none⟩)), (true, .pointer (some ⟨q.gw, 0, none⟩)), (true, .pointer (some ⟨q.gw, 4, none⟩)), (true, .slice ((some ⟨q.b1, 0, none⟩)) L1.length q.r1), (true, .int .i64 (((i : Nat) : Int))), (true, .pointer (some ⟨q.b1, 0 + i * 3, none⟩)), (true, .pointer (some ⟨q.b1, 0 + i * 3, none⟩)), (true, .agg #[.int .i64 ((ndget L1 i).t.f), .slice ((q.A1 i)) ((ndget L1 i).t.args.length) ((q.C1 i))]), (true, .pointer (some ⟨q.gw, 0, none⟩)), (true, .pointer (some ⟨q.gw, 0, none⟩)), (true, .pointer (some ⟨q.gw, 5, none⟩)), (true, .slice ((some ⟨q.b2, 0, none⟩)) L2.length q.r2), (true, .int .i64 (((k : Nat) : Int))), (true, .pointer (some ⟨q.b2, 0 + k * 3, none⟩)), (true, .pointer (some ⟨q.b2, 0 + k * 3, none⟩)), (true, .agg #[.int .i64 ((ndget L2 k).t.f), .slice ((q.A2 k)) ((ndget L2 k).t.args.length) ((q.C2 k))]), (true, undef), (true, undef), (true, undef), (true, undef)] [(0, .pointer (some ⟨q.gw, 0, none⟩)), (1, .int .i64 (((i : Nat) : Int))), (2, .int .i64 (((k : Nat) : Int))), (6, .bool false)] (t1 := 27) (z1 := #[.int .i64 0, .slice none 0 0]) (c1 := #[.int .i64 ((ndget L1 i).t.f), .slice ((q.A1 i)) ((ndget L1 i).t.args.length) ((q.C1 i))]) (t2 := 27) (z2 := #[.int .i64 0, .slice none 0 0]) (c2 := #[.int .i64 ((ndget L2 k).t.f), .slice ((q.A2 k)) ((ndget L2 k).t.args.length) ((q.C2 k))]) 16 17 18 19 7 8 (by decide) (by kernel_rfl) rfl rfl ⟨rfl, rfl, rfl, rfl, trivial⟩ (by kernel_rfl) (by kernel_rfl) (by kernel_rfl) ?_ ?_
  · refine ⟨.inl ⟨by decide, rfl, fun za zw zc => ?_⟩, ?_⟩
    · exact wp_move rfl (zc.kn.ev rfl) ⟨_, rfl, rfl, optDef rfl rfl⟩
    refine ⟨.inl ⟨by decide, rfl, fun za zw zc => ?_⟩, ?_⟩
    · exact nilCheck_ rfl ((show za.eval (.tmp 11) = za.tmps.getD 11 undef from rfl).trans (valVal (zc.dep 0 11 (by kernel_rfl) (by decide)) rfl rfl)) ⟨_, rfl, rfl, optDef rfl rfl⟩
    refine ⟨.inl ⟨by decide, rfl, fun za zw zc => ?_⟩, ?_⟩
    · exact fld_67_1 rfl ((show za.eval (.tmp 12) = za.tmps.getD 12 undef from rfl).trans (valVal (zc.dep 1 12 (by kernel_rfl) (by decide)) rfl rfl)) ⟨_, rfl, rfl, optDef rfl rfl⟩
    refine ⟨.inl ⟨by decide, rfl, fun za zw zc => ?_⟩, ?_⟩
    · exact ld_63 rfl ((show za.eval (.tmp 13) = za.tmps.getD 13 undef from rfl).trans (valVal (zc.dep 2 13 (by kernel_rfl) (by decide)) rfl rfl)) (bkeeps zc.below _ _ ((hst.blk.cell 4).trans rfl)) ⟨_, rfl, rfl, optDef rfl rfl⟩
    refine ⟨.inl ⟨by decide, rfl, fun za zw zc => ?_⟩, ?_⟩
    · exact wp_move rfl (zc.kn.ev rfl) ⟨_, rfl, rfl, optDef rfl rfl⟩
    refine ⟨.inl ⟨by decide, rfl, fun za zw zc => ?_⟩, ?_⟩
    · exact ix_63 (k := i) rfl ((show za.eval (.tmp 14) = za.tmps.getD 14 undef from rfl).trans (valVal (zc.dep 3 14 (by kernel_rfl) (by decide)) rfl rfl)) rfl ((show za.eval (.tmp 15) = za.tmps.getD 15 undef from rfl).trans (valVal (zc.dep 4 15 (by kernel_rfl) (by decide)) rfl rfl)) (by first | omega | (simp; omega)) ⟨_, rfl, rfl, optDef rfl rfl⟩
    refine ⟨.inl ⟨by decide, rfl, fun za zw zc => ?_⟩, ?_⟩
    · exact fld_84_0 rfl ((show za.eval (.tmp 16) = za.tmps.getD 16 undef from rfl).trans (valVal (zc.dep 5 16 (by kernel_rfl) (by decide)) rfl rfl)) ⟨_, rfl, rfl, optDef rfl rfl⟩
    refine ⟨.inl ⟨by decide, rfl, fun za zw zc => ?_⟩, ?_⟩
    · exact ld_27 rfl ((show za.eval (.tmp 17) = za.tmps.getD 17 undef from rfl).trans (valVal (zc.dep 6 17 (by kernel_rfl) (by decide)) rfl rfl)) ((hst.bel zc.below).n1.c0 i (by first | omega | (simp; omega))) ((hst.bel zc.below).n1.c1 i (by first | omega | (simp; omega))) ⟨_, rfl, rfl, optDef rfl rfl⟩
    refine ⟨.inl ⟨by decide, rfl, fun za zw zc => ?_⟩, ?_⟩
    · exact wp_move rfl (zc.kn.ev rfl) ⟨_, rfl, rfl, optDef rfl rfl⟩
    refine ⟨.inl ⟨by decide, rfl, fun za zw zc => ?_⟩, ?_⟩
    · exact nilCheck_ rfl ((show za.eval (.tmp 19) = za.tmps.getD 19 undef from rfl).trans (valVal (zc.dep 8 19 (by kernel_rfl) (by decide)) rfl rfl)) ⟨_, rfl, rfl, optDef rfl rfl⟩
    refine ⟨.inl ⟨by decide, rfl, fun za zw zc => ?_⟩, ?_⟩
    · exact fld_67_2 rfl ((show za.eval (.tmp 20) = za.tmps.getD 20 undef from rfl).trans (valVal (zc.dep 9 20 (by kernel_rfl) (by decide)) rfl rfl)) ⟨_, rfl, rfl, optDef rfl rfl⟩
    refine ⟨.inl ⟨by decide, rfl, fun za zw zc => ?_⟩, ?_⟩
    · exact ld_63 rfl ((show za.eval (.tmp 21) = za.tmps.getD 21 undef from rfl).trans (valVal (zc.dep 10 21 (by kernel_rfl) (by decide)) rfl rfl)) (bkeeps zc.below _ _ ((hst.blk.cell 5).trans rfl)) ⟨_, rfl, rfl, optDef rfl rfl⟩
    refine ⟨.inl ⟨by decide, rfl, fun za zw zc => ?_⟩, ?_⟩
    · exact wp_move rfl (zc.kn.ev rfl) ⟨_, rfl, rfl, optDef rfl rfl⟩
    refine ⟨.inl ⟨by decide, rfl, fun za zw zc => ?_⟩, ?_⟩
    · exact ix_63 (k := k) rfl ((show za.eval (.tmp 22) = za.tmps.getD 22 undef from rfl).trans (valVal (zc.dep 11 22 (by kernel_rfl) (by decide)) rfl rfl)) rfl ((show za.eval (.tmp 23) = za.tmps.getD 23 undef from rfl).trans (valVal (zc.dep 12 23 (by kernel_rfl) (by decide)) rfl rfl)) (by first | omega | (simp; omega)) ⟨_, rfl, rfl, optDef rfl rfl⟩
    refine ⟨.inl ⟨by decide, rfl, fun za zw zc => ?_⟩, ?_⟩
    · exact fld_84_0 rfl ((show za.eval (.tmp 24) = za.tmps.getD 24 undef from rfl).trans (valVal (zc.dep 13 24 (by kernel_rfl) (by decide)) rfl rfl)) ⟨_, rfl, rfl, optDef rfl rfl⟩
    refine ⟨.inl ⟨by decide, rfl, fun za zw zc => ?_⟩, ?_⟩
    · exact ld_27 rfl ((show za.eval (.tmp 25) = za.tmps.getD 25 undef from rfl).trans (valVal (zc.dep 14 25 (by kernel_rfl) (by decide)) rfl rfl)) ((hst.bel zc.below).n2.c0 k (by first | omega | (simp; omega))) ((hst.bel zc.below).n2.c1 k (by first | omega | (simp; omega))) ⟨_, rfl, rfl, optDef rfl rfl⟩
    refine ⟨.inr (.inl ⟨rfl, rfl, fun za zw zc => ?_⟩), ?_⟩
    · exact alloc_27 rfl ⟨rfl, rfl⟩
    refine ⟨.inr (.inr (.inl ⟨rfl, rfl, fun za zw zc => ?_⟩)), ?_⟩
    · exact alloc_27 rfl ⟨rfl, rfl⟩
    refine ⟨.inr (.inr (.inr (.inl ⟨rfl, rfl, 7, by kernel_rfl, fun za zw g zc z1 zB => ?_⟩))), ?_⟩
    · exact st_27 rfl ((show za.eval (.tmp 7) = za.tmps.getD 7 undef from rfl).trans z1) ((show za.eval (.tmp 18) = za.tmps.getD 18 undef from rfl).trans (valVal (zc.dep 7 18 (by kernel_rfl) (by decide)) rfl rfl)) rfl rfl zB (by first | decide | simp) (fun v => ⟨v, rfl, (Upd.at_ _ _ _ _).trans (Upd.at_ _ _ _ _), (zB.set_ 0 _).set_ 1 _⟩)
    refine ⟨.inr (.inr (.inr (.inr ⟨rfl, rfl, 8, by kernel_rfl, fun za zw g zc z1 zB => ?_⟩))), ?_⟩
    · exact st_27 rfl ((show za.eval (.tmp 8) = za.tmps.getD 8 undef from rfl).trans z1) ((show za.eval (.tmp 26) = za.tmps.getD 26 undef from rfl).trans (valVal (zc.dep 15 26 (by kernel_rfl) (by decide)) rfl rfl)) rfl rfl zB (by first | decide | simp) (fun v => ⟨v, rfl, (Upd.at_ _ _ _ _).trans (Upd.at_ _ _ _ _), (zB.set_ 0 _).set_ 1 _⟩)
    exact trivial
  · intro za w1 g2 g3 zh hb4 hg5 hg6 hne7 hB8 hB9 ha10 hb11 zu
    have hl12 : q.gw < g2 := by have z1 := hst.blk.lt; omega
    have hl13 : w0.heap.size ≤ g2 := by have z2 := (hst.below).size; omega
    have hl14 : w.heap.size ≤ g2 := by omega
    have hl15 : q.gw < g3 := by have z1 := hst.blk.lt; omega
    have hl16 : w0.heap.size ≤ g3 := by have z2 := (hst.below).size; omega
    have hl17 : w.heap.size ≤ g3 := by omega
    have zh := zh.cons (d := 7) ha10
    have zh := zh.cons (d := 8) hb11
    clear zu
    refine (show WE _ [(0, .pointer (some ⟨q.gw, 0, none⟩)), (1, .int .i64 (((i : Nat) : Int))), (2, .int .i64 (((k : Nat) : Int))), (6, .bool false), (7, .pointer (some ⟨g2, 0, none⟩)), (8, .pointer (some ⟨g3, 0, none⟩))] w1 _ .normal from ?_) za (zh.sub ⟨rfl, rfl, rfl, rfl, rfl, rfl, trivial⟩)
    refine WE.next ?_
    refine WC.seq ?_
    refine WC.seq ?_
    refine WC.region ?_
    refine WL.val (.pointer (some ⟨g2, 0, none⟩)) rfl rfl rfl (fun za zC zh zk => fld_27_0 rfl (zh.ev rfl) zk) ?_
    refine WL.val (.int .i64 ((ndget L1 i).t.f)) rfl rfl rfl (fun za zC zh zk => ld_3 rfl (zh.ev rfl) ((hB8.cell 0).trans rfl) zk) ?_
    refine WL.val (.bool ((decide (((ndget L1 i).t.f : Int) < (0 : Int))))) rfl rfl rfl (fun za zC zh zk => lss_3 rfl (zh.ev rfl) (zh.ev rfl) zk) ?_
    refine WL.nil (WE.sub (K' := [(0, .pointer (some ⟨q.gw, 0, none⟩)), (1, .int .i64 (((i : Nat) : Int))), (2, .int .i64 (((k : Nat) : Int))), (6, .bool false), (7, .pointer (some ⟨g2, 0, none⟩)), (8, .pointer (some ⟨g3, 0, none⟩)), (29, .bool ((decide (((ndget L1 i).t.f : Int) < (0 : Int)))))]) ⟨rfl, rfl, rfl, rfl, rfl, rfl, rfl, trivial⟩ ?_)
    refine WE.next ?_
    refine WC.cond rfl (fun h18 => ?_) (fun h18 => ?_)
    · have h18 : ((ndget L1 i).t.f : Int) < (0 : Int) := by simpa using h18
      refine WC.seq ?_
      refine WC.region ?_
      refine WL.val (.bool false) rfl rfl rfl (fun za zC zh zk => wp_assign rfl (zh.ev rfl) zk) ?_
      refine WL.nil (WE.sub (K' := [(0, .pointer (some ⟨q.gw, 0, none⟩)), (1, .int .i64 (((i : Nat) : Int))), (2, .int .i64 (((k : Nat) : Int))), (6, .bool false), (7, .pointer (some ⟨g2, 0, none⟩)), (8, .pointer (some ⟨g3, 0, none⟩)), (29, .bool ((decide (((ndget L1 i).t.f : Int) < (0 : Int)))))]) ⟨rfl, rfl, rfl, rfl, rfl, rfl, rfl, trivial⟩ ?_)
      refine WE.next ?_
      refine WC.ret ?_
      refine WE.thenRet ?_
      refine WE.ret1 rfl rfl ?_
      have hs19 : Chg ((fun b => q.lo ≤ b ∧ b ≤ q.hi)) w w1 := (Chg.trans2 (Chg.refl ((fun b => q.lo ≤ b ∧ b ≤ q.hi)) _) (Chg.ofBelow (S := fun k => k < 0) hb4) (fun i h1 h2 => by (try dsimp only at *); omega))
      exact ⟨_, rfl, congrArg Value.bool (by first | exact lg_var (by omega) | (rw [hrest]; rfl)), (hst.bel hb4), hs19⟩
    · have h18 : ¬ (((ndget L1 i).t.f : Int) < (0 : Int)) := by simpa using h18
      refine WC.skip ?_
      refine WE.next ?_
      refine WC.seq ?_
      refine WC.seq ?_
      refine WC.region ?_
      refine WL.val (.pointer (some ⟨g3, 0, none⟩)) rfl rfl rfl (fun za zC zh zk => fld_27_0 rfl (zh.ev rfl) zk) ?_
      refine WL.val (.int .i64 ((ndget L2 k).t.f)) rfl rfl rfl (fun za zC zh zk => ld_3 rfl (zh.ev rfl) ((hB9.cell 0).trans rfl) zk) ?_
      refine WL.val (.bool ((decide (((ndget L2 k).t.f : Int) < (0 : Int))))) rfl rfl rfl (fun za zC zh zk => lss_3 rfl (zh.ev rfl) (zh.ev rfl) zk) ?_
      refine WL.nil (WE.sub (K' := [(0, .pointer (some ⟨q.gw, 0, none⟩)), (1, .int .i64 (((i : Nat) : Int))), (2, .int .i64 (((k : Nat) : Int))), (6, .bool false), (7, .pointer (some ⟨g2, 0, none⟩)), (8, .pointer (some ⟨g3, 0, none⟩)), (29, .bool ((decide (((ndget L1 i).t.f : Int) < (0 : Int))))), (32, .bool ((decide (((ndget L2 k).t.f : Int) < (0 : Int)))))]) ⟨rfl, rfl, rfl, rfl, rfl, rfl, rfl, rfl, trivial⟩ ?_)
      refine WE.next ?_
      refine WC.cond rfl (fun h20 => ?_) (fun h20 => ?_)
      · have h20 : ((ndget L2 k).t.f : Int) < (0 : Int) := by simpa using h20
        refine WC.seq ?_
        refine WC.region ?_
        refine WL.val (.agg #[.int .i64 ((ndget L1 i).t.f), .slice ((q.A1 i)) ((ndget L1 i).t.args.length) ((q.C1 i))]) rfl rfl rfl (fun za zC zh zk => ld_27 rfl (zh.ev rfl) ((hB8.cell 0).trans rfl) ((hB8.cell 1).trans rfl) zk) ?_
        refine WL.val (.pointer (some ⟨g3, 0, none⟩)) rfl rfl rfl (fun za zC zh zk => fld_27_0 rfl (zh.ev rfl) zk) ?_
        refine WL.val (.int .i64 ((ndget L2 k).t.f)) rfl rfl rfl (fun za zC zh zk => ld_3 rfl (zh.ev rfl) ((hB9.cell 0).trans rfl) zk) ?_
        refine WL.val (.int .i64 (((-1) - (ndget L2 k).t.f))) rfl rfl rfl (fun za zC zh zk => subb_3 rfl (zh.ev rfl) (zh.ev rfl) (wrap_eq (by omega) (by omega) (by omega)) zk) ?_
        have hb21 : Below w0.heap.size w0 w1 := (bstep hst.below hb4)
        refine WL.call rfl rfl rfl (fun za zh zC => wp_call (by kernel_rfl) rfl (hv2 (zh.ev rfl) (zh.ev rfl))) (has_any (ndget L2 k).t.f ⟨hf2, hf2'⟩ (ndget L1 i).t _ _ (IsT.below hb21 (hst0.n1.t i hi))) ?_
        rintro _ w22 ⟨rfl, hbh⟩
        refine WL.val (.bool ((T.has (ndget L2 k).t.f (ndget L1 i).t))) rfl rfl rfl (fun za zC zh zk => wp_assign rfl (zh.ev rfl) zk) ?_
        refine WL.nil (WE.sub (K' := [(0, .pointer (some ⟨q.gw, 0, none⟩)), (1, .int .i64 (((i : Nat) : Int))), (2, .int .i64 (((k : Nat) : Int))), (6, .bool ((T.has (ndget L2 k).t.f (ndget L1 i).t))), (7, .pointer (some ⟨g2, 0, none⟩)), (8, .pointer (some ⟨g3, 0, none⟩)), (29, .bool ((decide (((ndget L1 i).t.f : Int) < (0 : Int))))), (32, .bool ((decide (((ndget L2 k).t.f : Int) < (0 : Int)))))]) ⟨rfl, rfl, rfl, rfl, rfl, rfl, rfl, rfl, trivial⟩ ?_)
        refine WE.next ?_
        refine WC.ret ?_
        refine WE.thenRet ?_
        refine WE.ret1 rfl rfl ?_
        have hb23 : Below w.heap.size w w22 := (bstep hb4 hbh)
        have hs24 : Chg ((fun b => q.lo ≤ b ∧ b ≤ q.hi)) w w22 := (Chg.trans2 (Chg.refl ((fun b => q.lo ≤ b ∧ b ≤ q.hi)) _) (Chg.ofBelow (S := fun k => k < 0) hb23) (fun i h1 h2 => by (try dsimp only at *); omega))
        exact ⟨_, rfl, congrArg Value.bool (lg_tvar (by omega) (by omega)), (hst.bel hb23), hs24⟩
      · have h20 : ¬ (((ndget L2 k).t.f : Int) < (0 : Int)) := by simpa using h20
        refine WC.skip ?_
        refine WE.next ?_
        refine WC.seq ?_
        refine WC.seq ?_
        refine WC.region ?_
        refine WL.val (.int .i64 0) rfl rfl rfl (fun za zC zh zk => wp_assign rfl (zh.ev rfl) zk) ?_
        refine WL.nil (WE.sub (K' := [(0, .pointer (some ⟨q.gw, 0, none⟩)), (1, .int .i64 (((i : Nat) : Int))), (2, .int .i64 (((k : Nat) : Int))), (6, .bool false), (7, .pointer (some ⟨g2, 0, none⟩)), (8, .pointer (some ⟨g3, 0, none⟩)), (9, .int .i64 0), (29, .bool ((decide (((ndget L1 i).t.f : Int) < (0 : Int))))), (32, .bool ((decide (((ndget L2 k).t.f : Int) < (0 : Int)))))]) ⟨rfl, rfl, rfl, rfl, rfl, rfl, rfl, rfl, rfl, trivial⟩ ?_)
        refine WE.next ?_
        refine WC.block ?_
        refine WC.loop (X := Nat) (fun j => (ndget L1 i).args.length - j) (fun j => [(0, .pointer (some ⟨q.gw, 0, none⟩)), (1, .int .i64 (((i : Nat) : Int))), (2, .int .i64 (((k : Nat) : Int))), (7, .pointer (some ⟨g2, 0, none⟩)), (8, .pointer (some ⟨g3, 0, none⟩)), (9, .int .i64 (((j : Nat) : Int))), (29, .bool ((decide (((ndget L1 i).t.f : Int) < (0 : Int))))), (32, .bool ((decide (((ndget L2 k).t.f : Int) < (0 : Int)))))]) (fun j w25 => j ≤ (ndget L1 i).args.length ∧ ((ndget L1 i).t.args.take j).any (fun a => T.same a (ndget L2 k).t || o.lg a (ndget L2 k).t) = false ∧ RefSt o L1 L2 q w0 wa E w25 ∧ Below w0.heap.size w0 w25 ∧ Blk w25 q.gw 67 #[.bool o.lpo, .slice q.p1 o.prec.length q.k1, .slice q.p2 o.weights.length q.k2, .int .i64 o.var, .slice ((some ⟨q.b1, 0, none⟩)) L1.length q.r1, .slice ((some ⟨q.b2, 0, none⟩)) L2.length q.r2, .slice ((some ⟨q.fb, 0, none⟩)) L1.length q.fc] ∧ Blk w25 g2 27 #[.int .i64 ((ndget L1 i).t.f), .slice ((q.A1 i)) ((ndget L1 i).t.args.length) ((q.C1 i))] ∧ Blk w25 g3 27 #[.int .i64 ((ndget L2 k).t.f), .slice ((q.A2 k)) ((ndget L2 k).t.args.length) ((q.C2 k))] ∧ Chg ((fun b => q.lo ≤ b ∧ b ≤ q.hi)) w w25) 0 ⟨rfl, rfl, rfl, rfl, rfl, rfl, rfl, rfl, trivial⟩ ?_ ?_
        · have hb26 : Below w0.heap.size w0 w1 := (bstep hst.below hb4)
          have hB27 := hst.blk.below hb4
          have hs28 : Chg ((fun b => q.lo ≤ b ∧ b ≤ q.hi)) w w1 := (Chg.trans2 (Chg.refl ((fun b => q.lo ≤ b ∧ b ≤ q.hi)) _) (Chg.ofBelow (S := fun k => k < 0) hb4) (fun i h1 h2 => by (try dsimp only at *); omega))
          exact ⟨Nat.zero_le _, rfl, (hst.bel hb4), hb26, hB27, hB8, hB9, hs28⟩
        · rintro j w25 ⟨hj, hall, hstl, hb29, hB30, hB31, hB32, hc33⟩
          obtain ⟨hl34, hl35, hl36, hl37⟩ := hstl.glt
          refine WC.seq ?_
          refine WC.seq ?_
          refine WC.region ?_
          refine WL.val (.int .i64 (((j : Nat) : Int))) rfl rfl rfl (fun za zC zh zk => wp_move rfl (zh.ev rfl) zk) ?_
          refine WL.val (.pointer (some ⟨q.gw, 0, none⟩)) rfl rfl rfl (fun za zC zh zk => wp_move rfl (zh.ev rfl) zk) ?_
          refine WL.val (.pointer (some ⟨q.gw, 0, none⟩)) rfl rfl rfl (fun za zC zh zk => nilCheck_ rfl (zh.ev rfl) zk) ?_
          refine WL.val (.pointer (some ⟨q.gw, 4, none⟩)) rfl rfl rfl (fun za zC zh zk => fld_67_1 rfl (zh.ev rfl) zk) ?_
          refine WL.val (.slice ((some ⟨q.b1, 0, none⟩)) L1.length q.r1) rfl rfl rfl (fun za zC zh zk => ld_63 rfl (zh.ev rfl) ((hB30.cell 4).trans rfl) zk) ?_
          refine WL.val (.int .i64 (((i : Nat) : Int))) rfl rfl rfl (fun za zC zh zk => wp_move rfl (zh.ev rfl) zk) ?_
          refine WL.val (.pointer (some ⟨q.b1, 0 + i * 3, none⟩)) rfl rfl rfl (fun za zC zh zk => ix_63 (k := i) rfl (zh.ev rfl) rfl (zh.ev rfl) (by first | omega | (simp; omega)) zk) ?_
          refine WL.val (.pointer (some ⟨q.b1, 0 + i * 3 + 2, none⟩)) rfl rfl rfl (fun za zC zh zk => fld_84_1 rfl (zh.ev rfl) zk) ?_
          refine WL.val (.slice ((q.X1 i)) ((ndget L1 i).args.length) ((q.Z1 i))) rfl rfl rfl (fun za zC zh zk => ld_22 rfl (zh.ev rfl) (hstl.n1.c2 i (by first | omega | (simp; omega))) zk) ?_
          refine WL.val (.int .i64 ((((ndget L1 i).args.length : Nat) : Int))) rfl rfl rfl (fun za zC zh zk => len_22 rfl (zh.ev rfl) zk) ?_
          refine WL.val (.bool ((decide ((((j : Nat) : Int) : Int) < ((((ndget L1 i).args.length : Nat) : Int) : Int))))) rfl rfl rfl (fun za zC zh zk => lss_3 rfl (zh.ev rfl) (zh.ev rfl) zk) ?_
          refine WL.nil (WE.sub (K' := [(0, .pointer (some ⟨q.gw, 0, none⟩)), (1, .int .i64 (((i : Nat) : Int))), (2, .int .i64 (((k : Nat) : Int))), (7, .pointer (some ⟨g2, 0, none⟩)), (8, .pointer (some ⟨g3, 0, none⟩)), (9, .int .i64 (((j : Nat) : Int))), (29, .bool ((decide (((ndget L1 i).t.f : Int) < (0 : Int))))), (32, .bool ((decide (((ndget L2 k).t.f : Int) < (0 : Int))))), (48, .bool ((decide ((((j : Nat) : Int) : Int) < ((((ndget L1 i).args.length : Nat) : Int) : Int)))))]) ⟨rfl, rfl, rfl, rfl, rfl, rfl, rfl, rfl, rfl, trivial⟩ ?_)
          refine WE.next ?_
          refine WC.cond rfl (fun h38 => ?_) (fun h38 => ?_)
          · have h38 : (((j : Nat) : Int) : Int) < ((((ndget L1 i).args.length : Nat) : Int) : Int) := by simpa using h38
            refine WC.skip ?_
            refine WE.next ?_
            refine WC.seq ?_
            refine WC.block ?_
            refine WC.seq ?_
            obtain ⟨b39, o40, A41, C42, ha43, hc44⟩ := IsTs.open (isT_row (hst0.n1.t i (by omega))).2.2.2
            have hch := nd_child (hH.g1 i hi) (j := j) (by omega)
            have hcs := size_child (t := (ndget L1 i).t) (k := j) (by omega)
            have hce := congrArg T.size hch.2
            refine WC.optc [(true, .pointer (some ⟨g2, 1, none⟩)), (true, .slice ((q.A1 i)) ((ndget L1 i).t.args.length) ((q.C1 i))), (true, .int .i64 (((j : Nat) : Int))), (true, .pointer (some ⟨b39, o40 + j * 2, none⟩)), (true, .agg #[.int .i64 ((tget ((ndget L1 i).t.args) j).f), .slice ((A41 j)) ((tget ((ndget L1 i).t.args) j).args.length) ((C42 j))]), (true, .agg #[.int .i64 ((ndget L2 k).t.f), .slice ((q.A2 k)) ((ndget L2 k).t.args.length) ((q.C2 k))]), (true, .bool ((T.same ((tget ((ndget L1 i).t.args) j)) ((ndget L2 k).t)))), (true, .bool ((T.same ((tget ((ndget L1 i).t.args) j)) ((ndget L2 k).t)))), ((true && !(T.same ((tget ((ndget L1 i).t.args) j)) ((ndget L2 k).t))), .pointer (some ⟨q.gw, 0, none⟩)), ((true && !(T.same ((tget ((ndget L1 i).t.args) j)) ((ndget L2 k).t))), .pointer (some ⟨q.gw, 0, none⟩)), ((true && !(T.same ((tget ((ndget L1 i).t.args) j)) ((ndget L2 k).t))), .pointer (some ⟨q.gw, 0, none⟩)), ((true && !(T.same ((tget ((ndget L1 i).t.args) j)) ((ndget L2 k).t))), .pointer (some ⟨q.gw, 4, none⟩)), ((true && !(T.same ((tget ((ndget L1 i).t.args) j)) ((ndget L2 k).t))), .slice ((some ⟨q.b1, 0, none⟩)) L1.length q.r1), ((true && !(T.same ((tget ((ndget L1 i).t.args) j)) ((ndget L2 k).t))), .int .i64 (((i : Nat) : Int))), ((true && !(T.same ((tget ((ndget L1 i).t.args) j)) ((ndget L2 k).t))), .pointer (some ⟨q.b1, 0 + i * 3, none⟩)), ((true && !(T.same ((tget ((ndget L1 i).t.args) j)) ((ndget L2 k).t))), .pointer (some ⟨q.b1, 0 + i * 3 + 2, none⟩)), ((true && !(T.same ((tget ((ndget L1 i).t.args) j)) ((ndget L2 k).t))), .slice ((q.X1 i)) ((ndget L1 i).args.length) ((q.Z1 i))), ((true && !(T.same ((tget ((ndget L1 i).t.args) j)) ((ndget L2 k).t))), .int .i64 (((j : Nat) : Int))), ((true && !(T.same ((tget ((ndget L1 i).t.args) j)) ((ndget L2 k).t))), .pointer (some ⟨(q.x1 i), 0 + j, none⟩)), ((true && !(T.same ((tget ((ndget L1 i).t.args) j)) ((ndget L2 k).t))), .int .i64 (((((ndget L1 i).args.getD j 0) : Nat) : Int))), ((true && !(T.same ((tget ((ndget L1 i).t.args) j)) ((ndget L2 k).t))), .int .i64 (((k : Nat) : Int))), ((true && !(T.same ((tget ((ndget L1 i).t.args) j)) ((ndget L2 k).t))), .bool ((o.lg (ndget L1 (((ndget L1 i).args.getD j 0))).t (ndget L2 k).t))), (true, .bool (((T.same ((tget ((ndget L1 i).t.args) j)) ((ndget L2 k).t)) || (o.lg (ndget L1 (((ndget L1 i).args.getD j 0))).t (ndget L2 k).t))))] [(0, .pointer (some ⟨q.gw, 0, none⟩)), (1, .int .i64 (((i : Nat) : Int))), (2, .int .i64 (((k : Nat) : Int))), (7, .pointer (some ⟨g2, 0, none⟩)), (8, .pointer (some ⟨g3, 0, none⟩)), (9, .int .i64 (((j : Nat) : Int))), (29, .bool ((decide (((ndget L1 i).t.f : Int) < (0 : Int))))), (32, .bool ((decide (((ndget L2 k).t.f : Int) < (0 : Int))))), (48, .bool ((decide ((((j : Nat) : Int) : Int) < ((((ndget L1 i).args.length : Nat) : Int) : Int)))))] (S := (fun b => q.lo ≤ b ∧ b ≤ q.hi)) (I := (RefSt o L1 L2 q w0 wa E)) (fun _ _ hb h => h.bel hb) hstl ⟨rfl, rfl, rfl, rfl, rfl, rfl, rfl, rfl, rfl, trivial⟩ (by kernel_rfl) (by kernel_rfl) (by kernel_rfl) ?_ ?_
            · refine ⟨⟨true, .none rfl, fun h => optUndef h, fun zβ za zw zc => ?_⟩, ?_⟩
              · exact fld_27_1 rfl (zc.kn.ev rfl) ⟨_, rfl, zc.chg, zc.inv, optDef zβ rfl⟩
              refine ⟨⟨true, .none rfl, fun h => optUndef h, fun zβ za zw zc => ?_⟩, ?_⟩
              · exact ld_25 rfl ((show za.eval (.tmp 51) = za.tmps.getD 51 undef from rfl).trans (valVal (zc.dep 0 51 (by kernel_rfl)) rfl rfl)) (chg_cell zc.chg (by (try dsimp only at *); omega) ((hB31.cell 1).trans rfl)) ⟨_, rfl, zc.chg, zc.inv, optDef zβ rfl⟩
              refine ⟨⟨true, .none rfl, fun h => optUndef h, fun zβ za zw zc => ?_⟩, ?_⟩
              · exact wp_move rfl (zc.kn.ev rfl) ⟨_, rfl, zc.chg, zc.inv, optDef zβ rfl⟩
              refine ⟨⟨true, .none rfl, fun h => optUndef h, fun zβ za zw zc => ?_⟩, ?_⟩
              · exact ix_25 (k := j) rfl ((show za.eval (.tmp 52) = za.tmps.getD 52 undef from rfl).trans (valVal (zc.dep 1 52 (by kernel_rfl)) rfl rfl)) (ha43 j (by first | omega | (simp; omega))) ((show za.eval (.tmp 53) = za.tmps.getD 53 undef from rfl).trans (valVal (zc.dep 2 53 (by kernel_rfl)) rfl rfl)) (by first | omega | (simp; omega)) ⟨_, rfl, zc.chg, zc.inv, optDef zβ rfl⟩
              refine ⟨⟨true, .none rfl, fun h => optUndef h, fun zβ za zw zc => ?_⟩, ?_⟩
              · exact ld_27 rfl ((show za.eval (.tmp 54) = za.tmps.getD 54 undef from rfl).trans (valVal (zc.dep 3 54 (by kernel_rfl)) rfl rfl)) (chg_old hb29 zc.chg (fun b hb => by (try dsimp only at *); omega) (hc44 j (by first | omega | (simp; omega))).1) (chg_old hb29 zc.chg (fun b hb => by (try dsimp only at *); omega) (hc44 j (by first | omega | (simp; omega))).2.1) ⟨_, rfl, zc.chg, zc.inv, optDef zβ rfl⟩
              refine ⟨⟨true, .none rfl, fun h => optUndef h, fun zβ za zw zc => ?_⟩, ?_⟩
              · exact ld_27 rfl (zc.kn.ev rfl) (chg_cell zc.chg (by (try dsimp only at *); omega) ((hB32.cell 0).trans rfl)) (chg_cell zc.chg (by (try dsimp only at *); omega) ((hB32.cell 1).trans rfl)) ⟨_, rfl, zc.chg, zc.inv, optDef zβ rfl⟩
              refine ⟨⟨true, .none rfl, fun h => optUndef h, fun zβ za zw zc => ?_⟩, ?_⟩
              · exact wp_call (by kernel_rfl) rfl (hv2 ((show za.eval (.tmp 55) = za.tmps.getD 55 undef from rfl).trans (valVal (zc.dep 4 55 (by kernel_rfl)) rfl rfl)) ((show za.eval (.tmp 56) = za.tmps.getD 56 undef from rfl).trans (valVal (zc.dep 5 56 (by kernel_rfl)) rfl rfl))) (ret_of (rsame_any ((tget ((ndget L1 i).t.args) j)) ((ndget L2 k).t) _ _ _ (IsT.below zc.inv.below (hc44 j (by first | omega | (simp; omega))).2.2) (IsT.below zc.inv.below (hst0.n2.t k (by omega))))) (fun v w' h => ⟨v, rfl, zc.chg.trans (.ofBelow h.2), zc.inv.bel h.2, optDef zβ h.1⟩)
              refine ⟨⟨true, .none rfl, fun h => optUndef h, fun zβ za zw zc => ?_⟩, ?_⟩
              · exact wp_move rfl ((show za.eval (.tmp 57) = za.tmps.getD 57 undef from rfl).trans (valVal (zc.dep 6 57 (by kernel_rfl)) rfl rfl)) ⟨_, rfl, zc.chg, zc.inv, optDef zβ rfl⟩
              refine ⟨⟨(true && !(T.same ((tget ((ndget L1 i).t.args) j)) ((ndget L2 k).t))), .no (c := (T.same ((tget ((ndget L1 i).t.args) j)) ((ndget L2 k).t))) (d := true) rfl (fun v w h => h), fun h => optUndef h, fun zβ za zw zc => ?_⟩, ?_⟩
              · exact wp_move rfl (zc.kn.ev rfl) ⟨_, rfl, zc.chg, zc.inv, optDef zβ rfl⟩
              refine ⟨⟨(true && !(T.same ((tget ((ndget L1 i).t.args) j)) ((ndget L2 k).t))), .no (c := (T.same ((tget ((ndget L1 i).t.args) j)) ((ndget L2 k).t))) (d := true) rfl (fun v w h => h), fun h => optUndef h, fun zβ za zw zc => ?_⟩, ?_⟩
              · exact wp_move rfl (zc.kn.ev rfl) ⟨_, rfl, zc.chg, zc.inv, optDef zβ rfl⟩
              refine ⟨⟨(true && !(T.same ((tget ((ndget L1 i).t.args) j)) ((ndget L2 k).t))), .no (c := (T.same ((tget ((ndget L1 i).t.args) j)) ((ndget L2 k).t))) (d := true) rfl (fun v w h => h), fun h => optUndef h, fun zβ za zw zc => ?_⟩, ?_⟩
              · exact nilCheck_ rfl ((show za.eval (.tmp 60) = za.tmps.getD 60 undef from rfl).trans (valVal (zc.dep 9 60 (by kernel_rfl)) rfl zβ)) ⟨_, rfl, zc.chg, zc.inv, optDef zβ rfl⟩
              refine ⟨⟨(true && !(T.same ((tget ((ndget L1 i).t.args) j)) ((ndget L2 k).t))), .no (c := (T.same ((tget ((ndget L1 i).t.args) j)) ((ndget L2 k).t))) (d := true) rfl (fun v w h => h), fun h => optUndef h, fun zβ za zw zc => ?_⟩, ?_⟩
              · exact fld_67_1 rfl ((show za.eval (.tmp 61) = za.tmps.getD 61 undef from rfl).trans (valVal (zc.dep 10 61 (by kernel_rfl)) rfl zβ)) ⟨_, rfl, zc.chg, zc.inv, optDef zβ rfl⟩
              refine ⟨⟨(true && !(T.same ((tget ((ndget L1 i).t.args) j)) ((ndget L2 k).t))), .no (c := (T.same ((tget ((ndget L1 i).t.args) j)) ((ndget L2 k).t))) (d := true) rfl (fun v w h => h), fun h => optUndef h, fun zβ za zw zc => ?_⟩, ?_⟩
              · exact ld_63 rfl ((show za.eval (.tmp 62) = za.tmps.getD 62 undef from rfl).trans (valVal (zc.dep 11 62 (by kernel_rfl)) rfl zβ)) (chg_cell zc.chg (by (try dsimp only at *); omega) ((hB30.cell 4).trans rfl)) ⟨_, rfl, zc.chg, zc.inv, optDef zβ rfl⟩
              refine ⟨⟨(true && !(T.same ((tget ((ndget L1 i).t.args) j)) ((ndget L2 k).t))), .no (c := (T.same ((tget ((ndget L1 i).t.args) j)) ((ndget L2 k).t))) (d := true) rfl (fun v w h => h), fun h => optUndef h, fun zβ za zw zc => ?_⟩, ?_⟩
              · exact wp_move rfl (zc.kn.ev rfl) ⟨_, rfl, zc.chg, zc.inv, optDef zβ rfl⟩
              refine ⟨⟨(true && !(T.same ((tget ((ndget L1 i).t.args) j)) ((ndget L2 k).t))), .no (c := (T.same ((tget ((ndget L1 i).t.args) j)) ((ndget L2 k).t))) (d := true) rfl (fun v w h => h), fun h => optUndef h, fun zβ za zw zc => ?_⟩, ?_⟩
              · exact ix_63 (k := i) rfl ((show za.eval (.tmp 63) = za.tmps.getD 63 undef from rfl).trans (valVal (zc.dep 12 63 (by kernel_rfl)) rfl zβ)) rfl ((show za.eval (.tmp 64) = za.tmps.getD 64 undef from rfl).trans (valVal (zc.dep 13 64 (by kernel_rfl)) rfl zβ)) (by have zz := zβ; simp only [Bool.and_eq_true, Bool.or_eq_true, Bool.true_and, Bool.not_eq_true', Bool.or_eq_false_iff, Bool.and_eq_false_iff, beq_eq_false_iff_ne, ne_eq, beq_iff_eq, decide_eq_true_eq, decide_eq_false_iff_not, bne_iff_ne] at zz; omega) ⟨_, rfl, zc.chg, zc.inv, optDef zβ rfl⟩
              refine ⟨⟨(true && !(T.same ((tget ((ndget L1 i).t.args) j)) ((ndget L2 k).t))), .no (c := (T.same ((tget ((ndget L1 i).t.args) j)) ((ndget L2 k).t))) (d := true) rfl (fun v w h => h), fun h => optUndef h, fun zβ za zw zc => ?_⟩, ?_⟩
              · exact fld_84_1 rfl ((show za.eval (.tmp 65) = za.tmps.getD 65 undef from rfl).trans (valVal (zc.dep 14 65 (by kernel_rfl)) rfl zβ)) ⟨_, rfl, zc.chg, zc.inv, optDef zβ rfl⟩
              refine ⟨⟨(true && !(T.same ((tget ((ndget L1 i).t.args) j)) ((ndget L2 k).t))), .no (c := (T.same ((tget ((ndget L1 i).t.args) j)) ((ndget L2 k).t))) (d := true) rfl (fun v w h => h), fun h => optUndef h, fun zβ za zw zc => ?_⟩, ?_⟩
              · exact ld_22 rfl ((show za.eval (.tmp 66) = za.tmps.getD 66 undef from rfl).trans (valVal (zc.dep 15 66 (by kernel_rfl)) rfl zβ)) (zc.inv.n1.c2 i (by have zz := zβ; simp only [Bool.and_eq_true, Bool.or_eq_true, Bool.true_and, Bool.not_eq_true', Bool.or_eq_false_iff, Bool.and_eq_false_iff, beq_eq_false_iff_ne, ne_eq, beq_iff_eq, decide_eq_true_eq, decide_eq_false_iff_not, bne_iff_ne] at zz; omega)) ⟨_, rfl, zc.chg, zc.inv, optDef zβ rfl⟩
              refine ⟨⟨(true && !(T.same ((tget ((ndget L1 i).t.args) j)) ((ndget L2 k).t))), .no (c := (T.same ((tget ((ndget L1 i).t.args) j)) ((ndget L2 k).t))) (d := true) rfl (fun v w h => h), fun h => optUndef h, fun zβ za zw zc => ?_⟩, ?_⟩
              · exact wp_move rfl (zc.kn.ev rfl) ⟨_, rfl, zc.chg, zc.inv, optDef zβ rfl⟩
              refine ⟨⟨(true && !(T.same ((tget ((ndget L1 i).t.args) j)) ((ndget L2 k).t))), .no (c := (T.same ((tget ((ndget L1 i).t.args) j)) ((ndget L2 k).t))) (d := true) rfl (fun v w h => h), fun h => optUndef h, fun zβ za zw zc => ?_⟩, ?_⟩
              · exact ix_22 (k := j) rfl ((show za.eval (.tmp 67) = za.tmps.getD 67 undef from rfl).trans (valVal (zc.dep 16 67 (by kernel_rfl)) rfl zβ)) (hst0.n1.x i j (by omega) (by have zz := zβ; simp only [Bool.and_eq_true, Bool.or_eq_true, Bool.true_and, Bool.not_eq_true', Bool.or_eq_false_iff, Bool.and_eq_false_iff, beq_eq_false_iff_ne, ne_eq, beq_iff_eq, decide_eq_true_eq, decide_eq_false_iff_not, bne_iff_ne] at zz; omega)).1 ((show za.eval (.tmp 68) = za.tmps.getD 68 undef from rfl).trans (valVal (zc.dep 17 68 (by kernel_rfl)) rfl zβ)) (by have zz := zβ; simp only [Bool.and_eq_true, Bool.or_eq_true, Bool.true_and, Bool.not_eq_true', Bool.or_eq_false_iff, Bool.and_eq_false_iff, beq_eq_false_iff_ne, ne_eq, beq_iff_eq, decide_eq_true_eq, decide_eq_false_iff_not, bne_iff_ne] at zz; omega) ⟨_, rfl, zc.chg, zc.inv, optDef zβ rfl⟩
              refine ⟨⟨(true && !(T.same ((tget ((ndget L1 i).t.args) j)) ((ndget L2 k).t))), .no (c := (T.same ((tget ((ndget L1 i).t.args) j)) ((ndget L2 k).t))) (d := true) rfl (fun v w h => h), fun h => optUndef h, fun zβ za zw zc => ?_⟩, ?_⟩
              · exact ld_3 rfl ((show za.eval (.tmp 69) = za.tmps.getD 69 undef from rfl).trans (valVal (zc.dep 18 69 (by kernel_rfl)) rfl zβ)) (zc.inv.n1.x i j (by omega) (by have zz := zβ; simp only [Bool.and_eq_true, Bool.or_eq_true, Bool.true_and, Bool.not_eq_true', Bool.or_eq_false_iff, Bool.and_eq_false_iff, beq_eq_false_iff_ne, ne_eq, beq_iff_eq, decide_eq_true_eq, decide_eq_false_iff_not, bne_iff_ne] at zz; omega)).2 ⟨_, rfl, zc.chg, zc.inv, optDef zβ rfl⟩
              refine ⟨⟨(true && !(T.same ((tget ((ndget L1 i).t.args) j)) ((ndget L2 k).t))), .no (c := (T.same ((tget ((ndget L1 i).t.args) j)) ((ndget L2 k).t))) (d := true) rfl (fun v w h => h), fun h => optUndef h, fun zβ za zw zc => ?_⟩, ?_⟩
              · exact wp_move rfl (zc.kn.ev rfl) ⟨_, rfl, zc.chg, zc.inv, optDef zβ rfl⟩
              refine ⟨⟨(true && !(T.same ((tget ((ndget L1 i).t.args) j)) ((ndget L2 k).t))), .no (c := (T.same ((tget ((ndget L1 i).t.args) j)) ((ndget L2 k).t))) (d := true) rfl (fun v w h => h), fun h => optUndef h, fun zβ za zw zc => ?_⟩, ?_⟩
              · exact wp_call (by kernel_rfl) rfl (hv3 ((show za.eval (.tmp 59) = za.tmps.getD 59 undef from rfl).trans (valVal (zc.dep 8 59 (by kernel_rfl)) rfl zβ)) ((show za.eval (.tmp 70) = za.tmps.getD 70 undef from rfl).trans (valVal (zc.dep 19 70 (by kernel_rfl)) rfl zβ)) ((show za.eval (.tmp 71) = za.tmps.getD 71 undef from rfl).trans (valVal (zc.dep 20 71 (by kernel_rfl)) rfl zβ))) (hA (((ndget L1 i).args.getD j 0)) k E _ (by omega) (by omega) (by omega) (fun a b h => by have := hE a b h; omega) zc.inv) (fun v w' h => ⟨v, rfl, zc.chg.trans h.2.2, h.2.1, optDef zβ h.1⟩)
              refine ⟨⟨true, .none rfl, fun h => optUndef h, fun zβ za zw zc => ?_⟩, ?_⟩
              · exact wp_or rfl ((show za.eval (.tmp 58) = za.tmps.getD 58 undef from rfl).trans (valVal (zc.dep 7 58 (by kernel_rfl)) rfl rfl)) (fun hp => ((show za.eval (.tmp 72) = za.tmps.getD 72 undef from rfl).trans (valVal (zc.dep 21 72 (by kernel_rfl)) rfl (bMkN zβ hp)))) ⟨_, rfl, zc.chg, zc.inv, optDef zβ rfl⟩
              exact trivial
            · intro za w47 zh hb48 hst49 zu
              have hl50 := hB30.lt
              have hl51 := hB31.lt
              have hl52 := hB32.lt
              have hb53 := chg_below hb29 hb48 (fun b hb => (by (try dsimp only at *); omega))
              have hB54 := chg_blk hB30 hb48 (by (try dsimp only at *); omega)
              have hB55 := chg_blk hB31 hb48 (by (try dsimp only at *); omega)
              have hB56 := chg_blk hB32 hb48 (by (try dsimp only at *); omega)
              obtain ⟨hl57, hl58, hl59, hl60⟩ := hst49.glt
              have zh := zh.cons (d := 73) (v := .bool (((T.same ((tget ((ndget L1 i).t.args) j)) ((ndget L2 k).t)) || (o.lg (ndget L1 (((ndget L1 i).args.getD j 0))).t (ndget L2 k).t)))) (valVal (zu 22 73 (by kernel_rfl)) rfl rfl)
              clear zu
              refine (show WE _ [(0, .pointer (some ⟨q.gw, 0, none⟩)), (1, .int .i64 (((i : Nat) : Int))), (2, .int .i64 (((k : Nat) : Int))), (7, .pointer (some ⟨g2, 0, none⟩)), (8, .pointer (some ⟨g3, 0, none⟩)), (9, .int .i64 (((j : Nat) : Int))), (29, .bool ((decide (((ndget L1 i).t.f : Int) < (0 : Int))))), (32, .bool ((decide (((ndget L2 k).t.f : Int) < (0 : Int))))), (48, .bool ((decide ((((j : Nat) : Int) : Int) < ((((ndget L1 i).args.length : Nat) : Int) : Int))))), (73, .bool (((T.same ((tget ((ndget L1 i).t.args) j)) ((ndget L2 k).t)) || (o.lg (ndget L1 (((ndget L1 i).args.getD j 0))).t (ndget L2 k).t))))] w47 _ .normal from ?_) za (zh.sub ⟨rfl, rfl, rfl, rfl, rfl, rfl, rfl, rfl, rfl, rfl, trivial⟩)
              refine WE.next ?_
              refine WC.cond rfl (fun h61 => ?_) (fun h61 => ?_)
              · have h61 : ((T.same ((tget ((ndget L1 i).t.args) j)) ((ndget L2 k).t)) = true) ∨ ((o.lg (ndget L1 (((ndget L1 i).args.getD j 0))).t (ndget L2 k).t) = true) := by simpa using h61
                refine WC.seq ?_
                refine WC.region ?_
                refine WL.val (.bool true) rfl rfl rfl (fun za zC zh zk => wp_assign rfl (zh.ev rfl) zk) ?_
                refine WL.nil (WE.sub (K' := [(0, .pointer (some ⟨q.gw, 0, none⟩)), (1, .int .i64 (((i : Nat) : Int))), (2, .int .i64 (((k : Nat) : Int))), (6, .bool true), (7, .pointer (some ⟨g2, 0, none⟩)), (8, .pointer (some ⟨g3, 0, none⟩)), (9, .int .i64 (((j : Nat) : Int))), (29, .bool ((decide (((ndget L1 i).t.f : Int) < (0 : Int))))), (32, .bool ((decide (((ndget L2 k).t.f : Int) < (0 : Int))))), (48, .bool ((decide ((((j : Nat) : Int) : Int) < ((((ndget L1 i).args.length : Nat) : Int) : Int))))), (73, .bool (((T.same ((tget ((ndget L1 i).t.args) j)) ((ndget L2 k).t)) || (o.lg (ndget L1 (((ndget L1 i).args.getD j 0))).t (ndget L2 k).t))))]) ⟨rfl, rfl, rfl, rfl, rfl, rfl, rfl, rfl, rfl, rfl, rfl, trivial⟩ ?_)
                refine WE.next ?_
                refine WC.ret ?_
                refine WE.blockRet ?_
                refine WE.thenRet ?_
                refine WE.thenRet ?_
                refine WE.blockRet ?_
                refine WE.thenRet ?_
                refine WE.ret1 rfl rfl ?_
                have hs62 : Chg ((fun b => q.lo ≤ b ∧ b ≤ q.hi)) w w47 := (Chg.trans2 (Chg.trans2 (Chg.refl ((fun b => q.lo ≤ b ∧ b ≤ q.hi)) _) hc33 (fun i h1 h2 => by (try dsimp only at *); omega)) hb48 (fun i h1 h2 => by (try dsimp only at *); omega))
                exact ⟨_, rfl, congrArg Value.bool (lg_hit (by omega) (by omega) (any_hit (k := j) (by omega) (by have z := h61; rw [hch.2] at z; simpa using z))), hst49, hs62⟩
              · have h61 : ¬ (((T.same ((tget ((ndget L1 i).t.args) j)) ((ndget L2 k).t)) = true) ∨ ((o.lg (ndget L1 (((ndget L1 i).args.getD j 0))).t (ndget L2 k).t) = true)) := by simpa using h61
                refine WC.skip ?_
                refine WE.blockNormal ?_
                refine WE.next ?_
                refine WC.region ?_
                refine WL.val (.int .i64 (((j : Nat) : Int))) rfl rfl rfl (fun za zC zh zk => wp_move rfl (zh.ev rfl) zk) ?_
                refine WL.val (.int .i64 ((((j + 1) : Nat) : Int))) rfl rfl rfl (fun za zC zh zk => addb_3 rfl (zh.ev rfl) (zh.ev rfl) (wrap_eq (by omega) (by omega) (by omega)) zk) ?_
                refine WL.val (.int .i64 ((((j + 1) : Nat) : Int))) rfl rfl rfl (fun za zC zh zk => wp_assign rfl (zh.ev rfl) zk) ?_
                refine WL.nil (WE.sub (K' := [(0, .pointer (some ⟨q.gw, 0, none⟩)), (1, .int .i64 (((i : Nat) : Int))), (2, .int .i64 (((k : Nat) : Int))), (7, .pointer (some ⟨g2, 0, none⟩)), (8, .pointer (some ⟨g3, 0, none⟩)), (9, .int .i64 ((((j + 1) : Nat) : Int))), (29, .bool ((decide (((ndget L1 i).t.f : Int) < (0 : Int))))), (32, .bool ((decide (((ndget L2 k).t.f : Int) < (0 : Int))))), (48, .bool ((decide ((((j : Nat) : Int) : Int) < ((((ndget L1 i).args.length : Nat) : Int) : Int))))), (73, .bool (((T.same ((tget ((ndget L1 i).t.args) j)) ((ndget L2 k).t)) || (o.lg (ndget L1 (((ndget L1 i).args.getD j 0))).t (ndget L2 k).t))))]) ⟨rfl, rfl, rfl, rfl, rfl, rfl, rfl, rfl, rfl, rfl, trivial⟩ ?_)
                refine WE.round (j + 1) ⟨rfl, rfl, rfl, rfl, rfl, rfl, rfl, rfl, trivial⟩ ?_ ?_
                · have hs63 : Chg ((fun b => q.lo ≤ b ∧ b ≤ q.hi)) w w47 := (Chg.trans2 (Chg.trans2 (Chg.refl ((fun b => q.lo ≤ b ∧ b ≤ q.hi)) _) hc33 (fun i h1 h2 => by (try dsimp only at *); omega)) hb48 (fun i h1 h2 => by (try dsimp only at *); omega))
                  exact ⟨by omega, any_step (by omega) hall (by have z := h61; rw [hch.2] at z; simpa using z), hst49, hb53, hB54, hB55, hB56, hs63⟩
                · omega
          · have h38 : ¬ ((((j : Nat) : Int) : Int) < ((((ndget L1 i).args.length : Nat) : Int) : Int)) := by simpa using h38
            have hrest := lg_rest (o := o) (s := (ndget L1 i).t) (t := (ndget L2 k).t) (by omega) (by omega) (by rw [List.take_of_length_le (by omega)] at hall; exact hall)
            refine WC.exit ?_
            refine WE.thenExit ?_
            refine WE.thenExit ?_
            refine WE.blockIs rfl ?_
            refine WE.next ?_
            refine WC.seq ?_
            refine WC.seq ?_
            refine WC.region ?_
            refine WL.val (.pointer (some ⟨g2, 0, none⟩)) rfl rfl rfl (fun za zC zh zk => fld_27_0 rfl (zh.ev rfl) zk) ?_
            refine WL.val (.int .i64 ((ndget L1 i).t.f)) rfl rfl rfl (fun za zC zh zk => ld_3 rfl (zh.ev rfl) ((hB31.cell 0).trans rfl) zk) ?_
            refine WL.val (.pointer (some ⟨g3, 0, none⟩)) rfl rfl rfl (fun za zC zh zk => fld_27_0 rfl (zh.ev rfl) zk) ?_
            refine WL.val (.int .i64 ((ndget L2 k).t.f)) rfl rfl rfl (fun za zC zh zk => ld_3 rfl (zh.ev rfl) ((hB32.cell 0).trans rfl) zk) ?_
            refine WL.val (.bool ((((ndget L1 i).t.f : Int) != ((ndget L2 k).t.f : Int)))) rfl rfl rfl (fun za zC zh zk => neq_3 rfl (zh.ev rfl) (zh.ev rfl) zk) ?_
            refine WL.nil (WE.sub (K' := [(0, .pointer (some ⟨q.gw, 0, none⟩)), (1, .int .i64 (((i : Nat) : Int))), (2, .int .i64 (((k : Nat) : Int))), (7, .pointer (some ⟨g2, 0, none⟩)), (8, .pointer (some ⟨g3, 0, none⟩)), (9, .int .i64 (((j : Nat) : Int))), (29, .bool ((decide (((ndget L1 i).t.f : Int) < (0 : Int))))), (32, .bool ((decide (((ndget L2 k).t.f : Int) < (0 : Int))))), (48, .bool ((decide ((((j : Nat) : Int) : Int) < ((((ndget L1 i).args.length : Nat) : Int) : Int))))), (78, .bool ((((ndget L1 i).t.f : Int) != ((ndget L2 k).t.f : Int))))]) ⟨rfl, rfl, rfl, rfl, rfl, rfl, rfl, rfl, rfl, rfl, trivial⟩ ?_)
            refine WE.next ?_
            refine WC.cond rfl (fun h64 => ?_) (fun h64 => ?_)
            · have h64 : ((ndget L1 i).t.f : Int) ≠ ((ndget L2 k).t.f : Int) := by simpa using h64
              rw [if_pos (by omega)] at hrest
              refine WC.seq ?_
              obtain ⟨b65, o66, ha67, hc68⟩ := IsInts.open hst0.prec
              refine WC.optc [(true, .pointer (some ⟨q.gw, 0, none⟩)), (true, .pointer (some ⟨q.gw, 0, none⟩)), (true, .pointer (some ⟨q.gw, 0, none⟩)), (true, .pointer (some ⟨q.gw, 1, none⟩)), (true, .slice q.p1 o.prec.length q.k1), (true, .pointer (some ⟨g2, 0, none⟩)), (true, .int .i64 ((ndget L1 i).t.f)), (true, .pointer (some ⟨b65, o66 + (Int.toNat ((ndget L1 i).t.f)), none⟩)), (true, .int .i64 ((iget o.prec (Int.toNat ((ndget L1 i).t.f))))), (true, .pointer (some ⟨q.gw, 0, none⟩)), (true, .pointer (some ⟨q.gw, 0, none⟩)), (true, .pointer (some ⟨q.gw, 0, none⟩)), (true, .pointer (some ⟨q.gw, 1, none⟩)), (true, .slice q.p1 o.prec.length q.k1), (true, .pointer (some ⟨g3, 0, none⟩)), (true, .int .i64 ((ndget L2 k).t.f)), (true, .pointer (some ⟨b65, o66 + (Int.toNat ((ndget L2 k).t.f)), none⟩)), (true, .int .i64 ((iget o.prec (Int.toNat ((ndget L2 k).t.f))))), (true, .bool ((decide (((iget o.prec (Int.toNat ((ndget L2 k).t.f))) : Int) < ((iget o.prec (Int.toNat ((ndget L1 i).t.f))) : Int))))), (true, .bool ((decide (((iget o.prec (Int.toNat ((ndget L2 k).t.f))) : Int) < ((iget o.prec (Int.toNat ((ndget L1 i).t.f))) : Int))))), ((true && (decide (((iget o.prec (Int.toNat ((ndget L2 k).t.f))) : Int) < ((iget o.prec (Int.toNat ((ndget L1 i).t.f))) : Int)))), .pointer (some ⟨q.gw, 0, none⟩)), ((true && (decide (((iget o.prec (Int.toNat ((ndget L2 k).t.f))) : Int) < ((iget o.prec (Int.toNat ((ndget L1 i).t.f))) : Int)))), .int .i64 (((i : Nat) : Int))), ((true && (decide (((iget o.prec (Int.toNat ((ndget L2 k).t.f))) : Int) < ((iget o.prec (Int.toNat ((ndget L1 i).t.f))) : Int)))), .int .i64 (((k : Nat) : Int))), ((true && (decide (((iget o.prec (Int.toNat ((ndget L2 k).t.f))) : Int) < ((iget o.prec (Int.toNat ((ndget L1 i).t.f))) : Int)))), .bool (((ndget L2 k).t.args.all (o.lg (ndget L1 i).t)))), (true, .bool (((decide (((iget o.prec (Int.toNat ((ndget L2 k).t.f))) : Int) < ((iget o.prec (Int.toNat ((ndget L1 i).t.f))) : Int))) && ((ndget L2 k).t.args.all (o.lg (ndget L1 i).t))))), (true, .bool (((decide (((iget o.prec (Int.toNat ((ndget L2 k).t.f))) : Int) < ((iget o.prec (Int.toNat ((ndget L1 i).t.f))) : Int))) && ((ndget L2 k).t.args.all (o.lg (ndget L1 i).t)))))] [(0, .pointer (some ⟨q.gw, 0, none⟩)), (1, .int .i64 (((i : Nat) : Int))), (2, .int .i64 (((k : Nat) : Int))), (7, .pointer (some ⟨g2, 0, none⟩)), (8, .pointer (some ⟨g3, 0, none⟩)), (9, .int .i64 (((j : Nat) : Int))), (29, .bool ((decide (((ndget L1 i).t.f : Int) < (0 : Int))))), (32, .bool ((decide (((ndget L2 k).t.f : Int) < (0 : Int))))), (48, .bool ((decide ((((j : Nat) : Int) : Int) < ((((ndget L1 i).args.length : Nat) : Int) : Int))))), (78, .bool ((((ndget L1 i).t.f : Int) != ((ndget L2 k).t.f : Int))))] (S := (fun b => q.lo ≤ b ∧ b ≤ q.hi)) (I := (RefSt o L1 L2 q w0 wa E)) (fun _ _ hb h => h.bel hb) hstl ⟨rfl, rfl, rfl, rfl, rfl, rfl, rfl, rfl, rfl, rfl, trivial⟩ (by kernel_rfl) (by kernel_rfl) (by kernel_rfl) ?_ ?_
              · refine ⟨⟨true, .none rfl, fun h => optUndef h, fun zβ za zw zc => ?_⟩, ?_⟩
                · exact wp_move rfl (zc.kn.ev rfl) ⟨_, rfl, zc.chg, zc.inv, optDef zβ rfl⟩
                refine ⟨⟨true, .none rfl, fun h => optUndef h, fun zβ za zw zc => ?_⟩, ?_⟩
                · exact nilCheck_ rfl ((show za.eval (.tmp 79) = za.tmps.getD 79 undef from rfl).trans (valVal (zc.dep 0 79 (by kernel_rfl)) rfl rfl)) ⟨_, rfl, zc.chg, zc.inv, optDef zβ rfl⟩
                refine ⟨⟨true, .none rfl, fun h => optUndef h, fun zβ za zw zc => ?_⟩, ?_⟩
                · exact fld_67_0 rfl ((show za.eval (.tmp 80) = za.tmps.getD 80 undef from rfl).trans (valVal (zc.dep 1 80 (by kernel_rfl)) rfl rfl)) ⟨_, rfl, zc.chg, zc.inv, optDef zβ rfl⟩
                refine ⟨⟨true, .none rfl, fun h => optUndef h, fun zβ za zw zc => ?_⟩, ?_⟩
                · exact fld_24_1 rfl ((show za.eval (.tmp 81) = za.tmps.getD 81 undef from rfl).trans (valVal (zc.dep 2 81 (by kernel_rfl)) rfl rfl)) ⟨_, rfl, zc.chg, zc.inv, optDef zβ rfl⟩
                refine ⟨⟨true, .none rfl, fun h => optUndef h, fun zβ za zw zc => ?_⟩, ?_⟩
                · exact ld_22 rfl ((show za.eval (.tmp 82) = za.tmps.getD 82 undef from rfl).trans (valVal (zc.dep 3 82 (by kernel_rfl)) rfl rfl)) (chg_cell zc.chg (by (try dsimp only at *); omega) ((hB30.cell 1).trans rfl)) ⟨_, rfl, zc.chg, zc.inv, optDef zβ rfl⟩
                refine ⟨⟨true, .none rfl, fun h => optUndef h, fun zβ za zw zc => ?_⟩, ?_⟩
                · exact fld_27_0 rfl (zc.kn.ev rfl) ⟨_, rfl, zc.chg, zc.inv, optDef zβ rfl⟩
                refine ⟨⟨true, .none rfl, fun h => optUndef h, fun zβ za zw zc => ?_⟩, ?_⟩
                · exact ld_3 rfl ((show za.eval (.tmp 84) = za.tmps.getD 84 undef from rfl).trans (valVal (zc.dep 5 84 (by kernel_rfl)) rfl rfl)) (chg_cell zc.chg (by (try dsimp only at *); omega) ((hB31.cell 0).trans rfl)) ⟨_, rfl, zc.chg, zc.inv, optDef zβ rfl⟩
                refine ⟨⟨true, .none rfl, fun h => optUndef h, fun zβ za zw zc => ?_⟩, ?_⟩
                · exact ix_22 (k := Int.toNat ((ndget L1 i).t.f)) rfl ((show za.eval (.tmp 83) = za.tmps.getD 83 undef from rfl).trans (valVal (zc.dep 4 83 (by kernel_rfl)) rfl rfl)) (ha67 (Int.toNat ((ndget L1 i).t.f)) (by first | omega | (simp; omega))) (((show za.eval (.tmp 85) = za.tmps.getD 85 undef from rfl).trans (valVal (zc.dep 6 85 (by kernel_rfl)) rfl rfl)).trans (congrArg (Value.int .i64) (Int.toNat_of_nonneg (by omega)).symm)) (by first | omega | (simp; omega)) ⟨_, rfl, zc.chg, zc.inv, optDef zβ rfl⟩
                refine ⟨⟨true, .none rfl, fun h => optUndef h, fun zβ za zw zc => ?_⟩, ?_⟩
                · exact ld_3 rfl ((show za.eval (.tmp 86) = za.tmps.getD 86 undef from rfl).trans (valVal (zc.dep 7 86 (by kernel_rfl)) rfl rfl)) (chg_old hb29 zc.chg (fun b hb => by (try dsimp only at *); omega) (hc68 (Int.toNat ((ndget L1 i).t.f)) (by first | omega | (simp; omega)))) ⟨_, rfl, zc.chg, zc.inv, optDef zβ rfl⟩
                refine ⟨⟨true, .none rfl, fun h => optUndef h, fun zβ za zw zc => ?_⟩, ?_⟩
                · exact wp_move rfl (zc.kn.ev rfl) ⟨_, rfl, zc.chg, zc.inv, optDef zβ rfl⟩
                refine ⟨⟨true, .none rfl, fun h => optUndef h, fun zβ za zw zc => ?_⟩, ?_⟩
                · exact nilCheck_ rfl ((show za.eval (.tmp 88) = za.tmps.getD 88 undef from rfl).trans (valVal (zc.dep 9 88 (by kernel_rfl)) rfl rfl)) ⟨_, rfl, zc.chg, zc.inv, optDef zβ rfl⟩
                refine ⟨⟨true, .none rfl, fun h => optUndef h, fun zβ za zw zc => ?_⟩, ?_⟩
                · exact fld_67_0 rfl ((show za.eval (.tmp 89) = za.tmps.getD 89 undef from rfl).trans (valVal (zc.dep 10 89 (by kernel_rfl)) rfl rfl)) ⟨_, rfl, zc.chg, zc.inv, optDef zβ rfl⟩
                refine ⟨⟨true, .none rfl, fun h => optUndef h, fun zβ za zw zc => ?_⟩, ?_⟩
                · exact fld_24_1 rfl ((show za.eval (.tmp 90) = za.tmps.getD 90 undef from rfl).trans (valVal (zc.dep 11 90 (by kernel_rfl)) rfl rfl)) ⟨_, rfl, zc.chg, zc.inv, optDef zβ rfl⟩
                refine ⟨⟨true, .none rfl, fun h => optUndef h, fun zβ za zw zc => ?_⟩, ?_⟩
                · exact ld_22 rfl ((show za.eval (.tmp 91) = za.tmps.getD 91 undef from rfl).trans (valVal (zc.dep 12 91 (by kernel_rfl)) rfl rfl)) (chg_cell zc.chg (by (try dsimp only at *); omega) ((hB30.cell 1).trans rfl)) ⟨_, rfl, zc.chg, zc.inv, optDef zβ rfl⟩
                refine ⟨⟨true, .none rfl, fun h => optUndef h, fun zβ za zw zc => ?_⟩, ?_⟩
                · exact fld_27_0 rfl (zc.kn.ev rfl) ⟨_, rfl, zc.chg, zc.inv, optDef zβ rfl⟩
                refine ⟨⟨true, .none rfl, fun h => optUndef h, fun zβ za zw zc => ?_⟩, ?_⟩
                · exact ld_3 rfl ((show za.eval (.tmp 93) = za.tmps.getD 93 undef from rfl).trans (valVal (zc.dep 14 93 (by kernel_rfl)) rfl rfl)) (chg_cell zc.chg (by (try dsimp only at *); omega) ((hB32.cell 0).trans rfl)) ⟨_, rfl, zc.chg, zc.inv, optDef zβ rfl⟩
                refine ⟨⟨true, .none rfl, fun h => optUndef h, fun zβ za zw zc => ?_⟩, ?_⟩
                · exact ix_22 (k := Int.toNat ((ndget L2 k).t.f)) rfl ((show za.eval (.tmp 92) = za.tmps.getD 92 undef from rfl).trans (valVal (zc.dep 13 92 (by kernel_rfl)) rfl rfl)) (ha67 (Int.toNat ((ndget L2 k).t.f)) (by first | omega | (simp; omega))) (((show za.eval (.tmp 94) = za.tmps.getD 94 undef from rfl).trans (valVal (zc.dep 15 94 (by kernel_rfl)) rfl rfl)).trans (congrArg (Value.int .i64) (Int.toNat_of_nonneg (by omega)).symm)) (by first | omega | (simp; omega)) ⟨_, rfl, zc.chg, zc.inv, optDef zβ rfl⟩
                refine ⟨⟨true, .none rfl, fun h => optUndef h, fun zβ za zw zc => ?_⟩, ?_⟩
                · exact ld_3 rfl ((show za.eval (.tmp 95) = za.tmps.getD 95 undef from rfl).trans (valVal (zc.dep 16 95 (by kernel_rfl)) rfl rfl)) (chg_old hb29 zc.chg (fun b hb => by (try dsimp only at *); omega) (hc68 (Int.toNat ((ndget L2 k).t.f)) (by first | omega | (simp; omega)))) ⟨_, rfl, zc.chg, zc.inv, optDef zβ rfl⟩
                refine ⟨⟨true, .none rfl, fun h => optUndef h, fun zβ za zw zc => ?_⟩, ?_⟩
                · exact gtr_3 rfl ((show za.eval (.tmp 87) = za.tmps.getD 87 undef from rfl).trans (valVal (zc.dep 8 87 (by kernel_rfl)) rfl rfl)) ((show za.eval (.tmp 96) = za.tmps.getD 96 undef from rfl).trans (valVal (zc.dep 17 96 (by kernel_rfl)) rfl rfl)) ⟨_, rfl, zc.chg, zc.inv, optDef zβ rfl⟩
                refine ⟨⟨true, .none rfl, fun h => optUndef h, fun zβ za zw zc => ?_⟩, ?_⟩
                · exact wp_move rfl ((show za.eval (.tmp 97) = za.tmps.getD 97 undef from rfl).trans (valVal (zc.dep 18 97 (by kernel_rfl)) rfl rfl)) ⟨_, rfl, zc.chg, zc.inv, optDef zβ rfl⟩
                refine ⟨⟨(true && (decide (((iget o.prec (Int.toNat ((ndget L2 k).t.f))) : Int) < ((iget o.prec (Int.toNat ((ndget L1 i).t.f))) : Int)))), .yes (c := (decide (((iget o.prec (Int.toNat ((ndget L2 k).t.f))) : Int) < ((iget o.prec (Int.toNat ((ndget L1 i).t.f))) : Int)))) (d := true) rfl (fun v w h => h), fun h => optUndef h, fun zβ za zw zc => ?_⟩, ?_⟩
                · exact wp_move rfl (zc.kn.ev rfl) ⟨_, rfl, zc.chg, zc.inv, optDef zβ rfl⟩
                refine ⟨⟨(true && (decide (((iget o.prec (Int.toNat ((ndget L2 k).t.f))) : Int) < ((iget o.prec (Int.toNat ((ndget L1 i).t.f))) : Int)))), .yes (c := (decide (((iget o.prec (Int.toNat ((ndget L2 k).t.f))) : Int) < ((iget o.prec (Int.toNat ((ndget L1 i).t.f))) : Int)))) (d := true) rfl (fun v w h => h), fun h => optUndef h, fun zβ za zw zc => ?_⟩, ?_⟩
                · exact wp_move rfl (zc.kn.ev rfl) ⟨_, rfl, zc.chg, zc.inv, optDef zβ rfl⟩
                refine ⟨⟨(true && (decide (((iget o.prec (Int.toNat ((ndget L2 k).t.f))) : Int) < ((iget o.prec (Int.toNat ((ndget L1 i).t.f))) : Int)))), .yes (c := (decide (((iget o.prec (Int.toNat ((ndget L2 k).t.f))) : Int) < ((iget o.prec (Int.toNat ((ndget L1 i).t.f))) : Int)))) (d := true) rfl (fun v w h => h), fun h => optUndef h, fun zβ za zw zc => ?_⟩, ?_⟩
                · exact wp_move rfl (zc.kn.ev rfl) ⟨_, rfl, zc.chg, zc.inv, optDef zβ rfl⟩
                refine ⟨⟨(true && (decide (((iget o.prec (Int.toNat ((ndget L2 k).t.f))) : Int) < ((iget o.prec (Int.toNat ((ndget L1 i).t.f))) : Int)))), .yes (c := (decide (((iget o.prec (Int.toNat ((ndget L2 k).t.f))) : Int) < ((iget o.prec (Int.toNat ((ndget L1 i).t.f))) : Int)))) (d := true) rfl (fun v w h => h), fun h => optUndef h, fun zβ za zw zc => ?_⟩, ?_⟩
                · exact wp_call (by kernel_rfl) rfl (hv3 ((show za.eval (.tmp 99) = za.tmps.getD 99 undef from rfl).trans (valVal (zc.dep 20 99 (by kernel_rfl)) rfl zβ)) ((show za.eval (.tmp 100) = za.tmps.getD 100 undef from rfl).trans (valVal (zc.dep 21 100 (by kernel_rfl)) rfl zβ)) ((show za.eval (.tmp 101) = za.tmps.getD 101 undef from rfl).trans (valVal (zc.dep 22 101 (by kernel_rfl)) rfl zβ))) (rall_any o L1 L2 q w0 wa n hH hA i k E _ hi hk hz hE zc.inv) (fun v w' h => ⟨v, rfl, zc.chg.trans h.2.2, h.2.1, optDef zβ h.1⟩)
                refine ⟨⟨true, .none rfl, fun h => optUndef h, fun zβ za zw zc => ?_⟩, ?_⟩
                · exact wp_and rfl ((show za.eval (.tmp 98) = za.tmps.getD 98 undef from rfl).trans (valVal (zc.dep 19 98 (by kernel_rfl)) rfl rfl)) (fun hp => ((show za.eval (.tmp 102) = za.tmps.getD 102 undef from rfl).trans (valVal (zc.dep 23 102 (by kernel_rfl)) rfl (bMk zβ hp)))) ⟨_, rfl, zc.chg, zc.inv, optDef zβ rfl⟩
                refine ⟨⟨true, .none rfl, fun h => optUndef h, fun zβ za zw zc => ?_⟩, ?_⟩
                · exact wp_assign rfl ((show za.eval (.tmp 103) = za.tmps.getD 103 undef from rfl).trans (valVal (zc.dep 24 103 (by kernel_rfl)) rfl rfl)) ⟨_, rfl, zc.chg, zc.inv, optDef zβ rfl⟩
                exact trivial
              · intro za w71 zh hb72 hst73 zu
                have hl74 := hB30.lt
                have hl75 := hB31.lt
                have hl76 := hB32.lt
                have hb77 := chg_below hb29 hb72 (fun b hb => (by (try dsimp only at *); omega))
                have hB78 := chg_blk hB30 hb72 (by (try dsimp only at *); omega)
                have hB79 := chg_blk hB31 hb72 (by (try dsimp only at *); omega)
                have hB80 := chg_blk hB32 hb72 (by (try dsimp only at *); omega)
                obtain ⟨hl81, hl82, hl83, hl84⟩ := hst73.glt
                have zh := zh.cons (d := 6) (v := .bool (((decide (((iget o.prec (Int.toNat ((ndget L2 k).t.f))) : Int) < ((iget o.prec (Int.toNat ((ndget L1 i).t.f))) : Int))) && ((ndget L2 k).t.args.all (o.lg (ndget L1 i).t))))) (valVal (zu 25 6 (by kernel_rfl)) rfl rfl)
                clear zu
                refine (show WE _ [(0, .pointer (some ⟨q.gw, 0, none⟩)), (1, .int .i64 (((i : Nat) : Int))), (2, .int .i64 (((k : Nat) : Int))), (6, .bool (((decide (((iget o.prec (Int.toNat ((ndget L2 k).t.f))) : Int) < ((iget o.prec (Int.toNat ((ndget L1 i).t.f))) : Int))) && ((ndget L2 k).t.args.all (o.lg (ndget L1 i).t))))), (7, .pointer (some ⟨g2, 0, none⟩)), (8, .pointer (some ⟨g3, 0, none⟩)), (9, .int .i64 (((j : Nat) : Int))), (29, .bool ((decide (((ndget L1 i).t.f : Int) < (0 : Int))))), (32, .bool ((decide (((ndget L2 k).t.f : Int) < (0 : Int))))), (48, .bool ((decide ((((j : Nat) : Int) : Int) < ((((ndget L1 i).args.length : Nat) : Int) : Int))))), (78, .bool ((((ndget L1 i).t.f : Int) != ((ndget L2 k).t.f : Int))))] w71 _ .normal from ?_) za (zh.sub ⟨rfl, rfl, rfl, rfl, rfl, rfl, rfl, rfl, rfl, rfl, rfl, trivial⟩)
                refine WE.next ?_
                refine WC.ret ?_
                refine WE.thenRet ?_
                refine WE.ret1 rfl rfl ?_
                have hs85 : Chg ((fun b => q.lo ≤ b ∧ b ≤ q.hi)) w w71 := (Chg.trans2 (Chg.trans2 (Chg.refl ((fun b => q.lo ≤ b ∧ b ≤ q.hi)) _) hc33 (fun i h1 h2 => by (try dsimp only at *); omega)) hb72 (fun i h1 h2 => by (try dsimp only at *); omega))
                exact ⟨_, rfl, congrArg Value.bool (by rw [hrest]; rfl), hst73, hs85⟩
            · have h64 : ¬ (((ndget L1 i).t.f : Int) ≠ ((ndget L2 k).t.f : Int)) := by simpa using h64
              rw [if_neg (by omega)] at hrest
              refine WC.skip ?_
              refine WE.next ?_
              refine WC.seq ?_
              refine WC.seq ?_
              refine WC.region ?_
              refine WL.val (.pointer (some ⟨q.gw, 0, none⟩)) rfl rfl rfl (fun za zC zh zk => wp_move rfl (zh.ev rfl) zk) ?_
              refine WL.val (.int .i64 (((i : Nat) : Int))) rfl rfl rfl (fun za zC zh zk => wp_move rfl (zh.ev rfl) zk) ?_
              refine WL.val (.int .i64 (((k : Nat) : Int))) rfl rfl rfl (fun za zC zh zk => wp_move rfl (zh.ev rfl) zk) ?_
              refine WL.call rfl rfl rfl (fun za zh zC => wp_call (by kernel_rfl) rfl (hv3 (zh.ev rfl) (zh.ev rfl) (zh.ev rfl))) (rall_any o L1 L2 q w0 wa n hH hA i k E _ hi hk hz hE hstl) ?_
              rintro _ w88 ⟨rfl, hst86, hc87⟩
              have hl89 := hB30.lt
              have hl90 := hB31.lt
              have hl91 := hB32.lt
              have hb92 := chg_below hb29 hc87 (fun b hb => (by (try dsimp only at *); omega))
              have hB93 := chg_blk hB30 hc87 (by (try dsimp only at *); omega)
              have hB94 := chg_blk hB31 hc87 (by (try dsimp only at *); omega)
              have hB95 := chg_blk hB32 hc87 (by (try dsimp only at *); omega)
              obtain ⟨hl96, hl97, hl98, hl99⟩ := hst86.glt
              refine WL.val (.bool ((!((ndget L2 k).t.args.all (o.lg (ndget L1 i).t))))) rfl rfl rfl (fun za zC zh zk => wp_not rfl (zh.ev rfl) zk) ?_
              refine WL.nil (WE.sub (K' := [(0, .pointer (some ⟨q.gw, 0, none⟩)), (1, .int .i64 (((i : Nat) : Int))), (2, .int .i64 (((k : Nat) : Int))), (7, .pointer (some ⟨g2, 0, none⟩)), (8, .pointer (some ⟨g3, 0, none⟩)), (9, .int .i64 (((j : Nat) : Int))), (29, .bool ((decide (((ndget L1 i).t.f : Int) < (0 : Int))))), (32, .bool ((decide (((ndget L2 k).t.f : Int) < (0 : Int))))), (48, .bool ((decide ((((j : Nat) : Int) : Int) < ((((ndget L1 i).args.length : Nat) : Int) : Int))))), (78, .bool ((((ndget L1 i).t.f : Int) != ((ndget L2 k).t.f : Int)))), (108, .bool ((!((ndget L2 k).t.args.all (o.lg (ndget L1 i).t)))))]) ⟨rfl, rfl, rfl, rfl, rfl, rfl, rfl, rfl, rfl, rfl, rfl, trivial⟩ ?_)
              refine WE.next ?_
              refine WC.cond rfl (fun h100 => ?_) (fun h100 => ?_)
              · have h100 : ¬ (((ndget L2 k).t.args.all (o.lg (ndget L1 i).t)) = true) := by simpa using h100
                have hall2 : ((ndget L2 k).t.args.all (o.lg (ndget L1 i).t)) = false := by simpa only [Bool.not_eq_true, Bool.not_not, Bool.not_eq_true', Bool.not_eq_false] using h100
                rw [hall2] at hrest
                refine WC.seq ?_
                refine WC.region ?_
                refine WL.val (.bool false) rfl rfl rfl (fun za zC zh zk => wp_assign rfl (zh.ev rfl) zk) ?_
                refine WL.nil (WE.sub (K' := [(0, .pointer (some ⟨q.gw, 0, none⟩)), (1, .int .i64 (((i : Nat) : Int))), (2, .int .i64 (((k : Nat) : Int))), (6, .bool false), (7, .pointer (some ⟨g2, 0, none⟩)), (8, .pointer (some ⟨g3, 0, none⟩)), (9, .int .i64 (((j : Nat) : Int))), (29, .bool ((decide (((ndget L1 i).t.f : Int) < (0 : Int))))), (32, .bool ((decide (((ndget L2 k).t.f : Int) < (0 : Int))))), (48, .bool ((decide ((((j : Nat) : Int) : Int) < ((((ndget L1 i).args.length : Nat) : Int) : Int))))), (78, .bool ((((ndget L1 i).t.f : Int) != ((ndget L2 k).t.f : Int)))), (108, .bool ((!((ndget L2 k).t.args.all (o.lg (ndget L1 i).t)))))]) ⟨rfl, rfl, rfl, rfl, rfl, rfl, rfl, rfl, rfl, rfl, rfl, rfl, trivial⟩ ?_)
                refine WE.next ?_
                refine WC.ret ?_
                refine WE.thenRet ?_
                refine WE.ret1 rfl rfl ?_
                have hs101 : Chg ((fun b => q.lo ≤ b ∧ b ≤ q.hi)) w w88 := (Chg.trans2 (Chg.trans2 (Chg.refl ((fun b => q.lo ≤ b ∧ b ≤ q.hi)) _) hc33 (fun i h1 h2 => by (try dsimp only at *); omega)) hc87 (fun i h1 h2 => by (try dsimp only at *); omega))
                exact ⟨_, rfl, congrArg Value.bool (by first | exact lg_var (by omega) | (rw [hrest]; rfl)), hst86, hs101⟩
              · have h100 : ¬ (¬ (((ndget L2 k).t.args.all (o.lg (ndget L1 i).t)) = true)) := by simpa using h100
                have hall2 : ((ndget L2 k).t.args.all (o.lg (ndget L1 i).t)) = true := by simpa only [Bool.not_eq_true, Bool.not_not, Bool.not_eq_true', Bool.not_eq_false] using h100
                rw [hall2] at hrest
                refine WC.skip ?_
                refine WE.next ?_
                refine WC.seq ?_
                refine WC.seq ?_
                refine WC.region ?_
                refine WL.val (.int .i64 0) rfl rfl rfl (fun za zC zh zk => wp_assign rfl (zh.ev rfl) zk) ?_
                refine WL.nil (WE.sub (K' := [(0, .pointer (some ⟨q.gw, 0, none⟩)), (1, .int .i64 (((i : Nat) : Int))), (2, .int .i64 (((k : Nat) : Int))), (7, .pointer (some ⟨g2, 0, none⟩)), (8, .pointer (some ⟨g3, 0, none⟩)), (9, .int .i64 (((j : Nat) : Int))), (10, .int .i64 0), (29, .bool ((decide (((ndget L1 i).t.f : Int) < (0 : Int))))), (32, .bool ((decide (((ndget L2 k).t.f : Int) < (0 : Int))))), (48, .bool ((decide ((((j : Nat) : Int) : Int) < ((((ndget L1 i).args.length : Nat) : Int) : Int))))), (78, .bool ((((ndget L1 i).t.f : Int) != ((ndget L2 k).t.f : Int)))), (108, .bool ((!((ndget L2 k).t.args.all (o.lg (ndget L1 i).t)))))]) ⟨rfl, rfl, rfl, rfl, rfl, rfl, rfl, rfl, rfl, rfl, rfl, rfl, trivial⟩ ?_)
                refine WE.next ?_
                refine WC.block ?_
                refine WC.loop (X := Nat) (fun jj => (ndget L1 i).args.length - jj) (fun jj => [(0, .pointer (some ⟨q.gw, 0, none⟩)), (1, .int .i64 (((i : Nat) : Int))), (2, .int .i64 (((k : Nat) : Int))), (7, .pointer (some ⟨g2, 0, none⟩)), (8, .pointer (some ⟨g3, 0, none⟩)), (9, .int .i64 (((j : Nat) : Int))), (10, .int .i64 (((jj : Nat) : Int))), (29, .bool ((decide (((ndget L1 i).t.f : Int) < (0 : Int))))), (32, .bool ((decide (((ndget L2 k).t.f : Int) < (0 : Int))))), (48, .bool ((decide ((((j : Nat) : Int) : Int) < ((((ndget L1 i).args.length : Nat) : Int) : Int))))), (78, .bool ((((ndget L1 i).t.f : Int) != ((ndget L2 k).t.f : Int)))), (108, .bool ((!((ndget L2 k).t.args.all (o.lg (ndget L1 i).t)))))]) (fun jj w102 => jj ≤ (ndget L1 i).args.length ∧ jj ≤ (ndget L2 k).args.length ∧ lexR o.lg (ndget L1 i).t.args (ndget L2 k).t.args = lexR o.lg ((ndget L1 i).t.args.drop jj) ((ndget L2 k).t.args.drop jj) ∧ RefSt o L1 L2 q w0 wa E w102 ∧ Below w0.heap.size w0 w102 ∧ Blk w102 q.gw 67 #[.bool o.lpo, .slice q.p1 o.prec.length q.k1, .slice q.p2 o.weights.length q.k2, .int .i64 o.var, .slice ((some ⟨q.b1, 0, none⟩)) L1.length q.r1, .slice ((some ⟨q.b2, 0, none⟩)) L2.length q.r2, .slice ((some ⟨q.fb, 0, none⟩)) L1.length q.fc] ∧ Blk w102 g2 27 #[.int .i64 ((ndget L1 i).t.f), .slice ((q.A1 i)) ((ndget L1 i).t.args.length) ((q.C1 i))] ∧ Blk w102 g3 27 #[.int .i64 ((ndget L2 k).t.f), .slice ((q.A2 k)) ((ndget L2 k).t.args.length) ((q.C2 k))] ∧ Chg ((fun b => q.lo ≤ b ∧ b ≤ q.hi)) w w102) 0 ⟨rfl, rfl, rfl, rfl, rfl, rfl, rfl, rfl, rfl, rfl, rfl, rfl, trivial⟩ ?_ ?_
                · have hs103 : Chg ((fun b => q.lo ≤ b ∧ b ≤ q.hi)) w w88 := (Chg.trans2 (Chg.trans2 (Chg.refl ((fun b => q.lo ≤ b ∧ b ≤ q.hi)) _) hc33 (fun i h1 h2 => by (try dsimp only at *); omega)) hc87 (fun i h1 h2 => by (try dsimp only at *); omega))
                  exact ⟨Nat.zero_le _, Nat.zero_le _, rfl, hst86, hb92, hB93, hB94, hB95, hs103⟩
                · rintro jj w102 ⟨hj, hjj2, hlex, hstl, hb104, hB105, hB106, hB107, hc108⟩
                  obtain ⟨hl109, hl110, hl111, hl112⟩ := hstl.glt
                  refine WC.seq ?_
                  refine WC.seq ?_
                  refine WC.opt [(true, .val (.int .i64 (((jj : Nat) : Int)))), (true, .val (.pointer (some ⟨g2, 1, none⟩))), (true, .val (.slice ((q.A1 i)) ((ndget L1 i).t.args.length) ((q.C1 i)))), (true, .val (.int .i64 ((((ndget L1 i).t.args.length : Nat) : Int)))), (true, .val (.bool ((decide ((((jj : Nat) : Int) : Int) < ((((ndget L1 i).t.args.length : Nat) : Int) : Int)))))), (true, .val (.bool ((decide ((((jj : Nat) : Int) : Int) < ((((ndget L1 i).t.args.length : Nat) : Int) : Int)))))), ((true && (decide ((((jj : Nat) : Int) : Int) < ((((ndget L1 i).t.args.length : Nat) : Int) : Int)))), .val (.int .i64 (((jj : Nat) : Int)))), ((true && (decide ((((jj : Nat) : Int) : Int) < ((((ndget L1 i).t.args.length : Nat) : Int) : Int)))), .val (.pointer (some ⟨g3, 1, none⟩))), ((true && (decide ((((jj : Nat) : Int) : Int) < ((((ndget L1 i).t.args.length : Nat) : Int) : Int)))), .val (.slice ((q.A2 k)) ((ndget L2 k).t.args.length) ((q.C2 k)))), ((true && (decide ((((jj : Nat) : Int) : Int) < ((((ndget L1 i).t.args.length : Nat) : Int) : Int)))), .val (.int .i64 ((((ndget L2 k).t.args.length : Nat) : Int)))), ((true && (decide ((((jj : Nat) : Int) : Int) < ((((ndget L1 i).t.args.length : Nat) : Int) : Int)))), .val (.bool ((decide ((((jj : Nat) : Int) : Int) < ((((ndget L2 k).t.args.length : Nat) : Int) : Int)))))), (true, .val (.bool (((decide ((((jj : Nat) : Int) : Int) < ((((ndget L1 i).t.args.length : Nat) : Int) : Int))) && (decide ((((jj : Nat) : Int) : Int) < ((((ndget L2 k).t.args.length : Nat) : Int) : Int)))))))] [(0, .pointer (some ⟨q.gw, 0, none⟩)), (1, .int .i64 (((i : Nat) : Int))), (2, .int .i64 (((k : Nat) : Int))), (7, .pointer (some ⟨g2, 0, none⟩)), (8, .pointer (some ⟨g3, 0, none⟩)), (9, .int .i64 (((j : Nat) : Int))), (10, .int .i64 (((jj : Nat) : Int))), (29, .bool ((decide (((ndget L1 i).t.f : Int) < (0 : Int))))), (32, .bool ((decide (((ndget L2 k).t.f : Int) < (0 : Int))))), (48, .bool ((decide ((((j : Nat) : Int) : Int) < ((((ndget L1 i).args.length : Nat) : Int) : Int))))), (78, .bool ((((ndget L1 i).t.f : Int) != ((ndget L2 k).t.f : Int)))), (108, .bool ((!((ndget L2 k).t.args.all (o.lg (ndget L1 i).t)))))] ⟨rfl, rfl, rfl, rfl, rfl, rfl, rfl, rfl, rfl, rfl, rfl, rfl, trivial⟩ (by kernel_rfl) (by kernel_rfl) (by kernel_rfl) ?_ ?_
                  · refine ⟨⟨true, .none rfl, fun h w => optUndef h, fun zβ za zw zc => ?_⟩, ?_⟩
                    · exact wp_move rfl (zc.kn.ev rfl) ⟨_, rfl, Below.refl _ _, optDef zβ rfl⟩
                    refine ⟨⟨true, .none rfl, fun h w => optUndef h, fun zβ za zw zc => ?_⟩, ?_⟩
                    · exact fld_27_1 rfl (zc.kn.ev rfl) ⟨_, rfl, Below.refl _ _, optDef zβ rfl⟩
                    refine ⟨⟨true, .none rfl, fun h w => optUndef h, fun zβ za zw zc => ?_⟩, ?_⟩
                    · exact ld_25 rfl ((show za.eval (.tmp 110) = za.tmps.getD 110 undef from rfl).trans (optVal (zc.dep 1 110 (by kernel_rfl)) rfl rfl)) (bkeeps zc.below _ _ ((hB106.cell 1).trans rfl)) ⟨_, rfl, Below.refl _ _, optDef zβ rfl⟩
                    refine ⟨⟨true, .none rfl, fun h w => optUndef h, fun zβ za zw zc => ?_⟩, ?_⟩
                    · exact len_25 rfl ((show za.eval (.tmp 111) = za.tmps.getD 111 undef from rfl).trans (optVal (zc.dep 2 111 (by kernel_rfl)) rfl rfl)) ⟨_, rfl, Below.refl _ _, optDef zβ rfl⟩
                    refine ⟨⟨true, .none rfl, fun h w => optUndef h, fun zβ za zw zc => ?_⟩, ?_⟩
                    · exact lss_3 rfl ((show za.eval (.tmp 109) = za.tmps.getD 109 undef from rfl).trans (optVal (zc.dep 0 109 (by kernel_rfl)) rfl rfl)) ((show za.eval (.tmp 112) = za.tmps.getD 112 undef from rfl).trans (optVal (zc.dep 3 112 (by kernel_rfl)) rfl rfl)) ⟨_, rfl, Below.refl _ _, optDef zβ rfl⟩
                    refine ⟨⟨true, .none rfl, fun h w => optUndef h, fun zβ za zw zc => ?_⟩, ?_⟩
                    · exact wp_move rfl ((show za.eval (.tmp 113) = za.tmps.getD 113 undef from rfl).trans (optVal (zc.dep 4 113 (by kernel_rfl)) rfl rfl)) ⟨_, rfl, Below.refl _ _, optDef zβ rfl⟩
                    refine ⟨⟨(true && (decide ((((jj : Nat) : Int) : Int) < ((((ndget L1 i).t.args.length : Nat) : Int) : Int)))), .yes (c := (decide ((((jj : Nat) : Int) : Int) < ((((ndget L1 i).t.args.length : Nat) : Int) : Int)))) (d := true) rfl (fun v w h => h), fun h w => optUndef h, fun zβ za zw zc => ?_⟩, ?_⟩
                    · exact wp_move rfl (zc.kn.ev rfl) ⟨_, rfl, Below.refl _ _, optDef zβ rfl⟩
                    refine ⟨⟨(true && (decide ((((jj : Nat) : Int) : Int) < ((((ndget L1 i).t.args.length : Nat) : Int) : Int)))), .yes (c := (decide ((((jj : Nat) : Int) : Int) < ((((ndget L1 i).t.args.length : Nat) : Int) : Int)))) (d := true) rfl (fun v w h => h), fun h w => optUndef h, fun zβ za zw zc => ?_⟩, ?_⟩
                    · exact fld_27_1 rfl (zc.kn.ev rfl) ⟨_, rfl, Below.refl _ _, optDef zβ rfl⟩
                    refine ⟨⟨(true && (decide ((((jj : Nat) : Int) : Int) < ((((ndget L1 i).t.args.length : Nat) : Int) : Int)))), .yes (c := (decide ((((jj : Nat) : Int) : Int) < ((((ndget L1 i).t.args.length : Nat) : Int) : Int)))) (d := true) rfl (fun v w h => h), fun h w => optUndef h, fun zβ za zw zc => ?_⟩, ?_⟩
                    · exact ld_25 rfl ((show za.eval (.tmp 116) = za.tmps.getD 116 undef from rfl).trans (optVal (zc.dep 7 116 (by kernel_rfl)) rfl zβ)) (bkeeps zc.below _ _ ((hB107.cell 1).trans rfl)) ⟨_, rfl, Below.refl _ _, optDef zβ rfl⟩
                    refine ⟨⟨(true && (decide ((((jj : Nat) : Int) : Int) < ((((ndget L1 i).t.args.length : Nat) : Int) : Int)))), .yes (c := (decide ((((jj : Nat) : Int) : Int) < ((((ndget L1 i).t.args.length : Nat) : Int) : Int)))) (d := true) rfl (fun v w h => h), fun h w => optUndef h, fun zβ za zw zc => ?_⟩, ?_⟩
                    · exact len_25 rfl ((show za.eval (.tmp 117) = za.tmps.getD 117 undef from rfl).trans (optVal (zc.dep 8 117 (by kernel_rfl)) rfl zβ)) ⟨_, rfl, Below.refl _ _, optDef zβ rfl⟩
                    refine ⟨⟨(true && (decide ((((jj : Nat) : Int) : Int) < ((((ndget L1 i).t.args.length : Nat) : Int) : Int)))), .yes (c := (decide ((((jj : Nat) : Int) : Int) < ((((ndget L1 i).t.args.length : Nat) : Int) : Int)))) (d := true) rfl (fun v w h => h), fun h w => optUndef h, fun zβ za zw zc => ?_⟩, ?_⟩
                    · exact lss_3 rfl ((show za.eval (.tmp 115) = za.tmps.getD 115 undef from rfl).trans (optVal (zc.dep 6 115 (by kernel_rfl)) rfl zβ)) ((show za.eval (.tmp 118) = za.tmps.getD 118 undef from rfl).trans (optVal (zc.dep 9 118 (by kernel_rfl)) rfl zβ)) ⟨_, rfl, Below.refl _ _, optDef zβ rfl⟩
                    refine ⟨⟨true, .none rfl, fun h w => optUndef h, fun zβ za zw zc => ?_⟩, ?_⟩
                    · exact wp_and rfl ((show za.eval (.tmp 114) = za.tmps.getD 114 undef from rfl).trans (optVal (zc.dep 5 114 (by kernel_rfl)) rfl rfl)) (fun hp => ((show za.eval (.tmp 119) = za.tmps.getD 119 undef from rfl).trans (optVal (zc.dep 10 119 (by kernel_rfl)) rfl (bMk zβ hp)))) ⟨_, rfl, Below.refl _ _, optDef zβ rfl⟩
                    exact trivial
                  · intro za w113 zh hb114 zu
                    have zh := zh.cons (d := 120) (v := .bool (((decide ((((jj : Nat) : Int) : Int) < ((((ndget L1 i).t.args.length : Nat) : Int) : Int))) && (decide ((((jj : Nat) : Int) : Int) < ((((ndget L2 k).t.args.length : Nat) : Int) : Int)))))) (optVal (zu 11 120 (by kernel_rfl)) rfl rfl)
                    clear zu
                    refine (show WE _ [(0, .pointer (some ⟨q.gw, 0, none⟩)), (1, .int .i64 (((i : Nat) : Int))), (2, .int .i64 (((k : Nat) : Int))), (7, .pointer (some ⟨g2, 0, none⟩)), (8, .pointer (some ⟨g3, 0, none⟩)), (9, .int .i64 (((j : Nat) : Int))), (10, .int .i64 (((jj : Nat) : Int))), (29, .bool ((decide (((ndget L1 i).t.f : Int) < (0 : Int))))), (32, .bool ((decide (((ndget L2 k).t.f : Int) < (0 : Int))))), (48, .bool ((decide ((((j : Nat) : Int) : Int) < ((((ndget L1 i).args.length : Nat) : Int) : Int))))), (78, .bool ((((ndget L1 i).t.f : Int) != ((ndget L2 k).t.f : Int)))), (108, .bool ((!((ndget L2 k).t.args.all (o.lg (ndget L1 i).t))))), (120, .bool (((decide ((((jj : Nat) : Int) : Int) < ((((ndget L1 i).t.args.length : Nat) : Int) : Int))) && (decide ((((jj : Nat) : Int) : Int) < ((((ndget L2 k).t.args.length : Nat) : Int) : Int))))))] w113 _ .normal from ?_) za (zh.sub ⟨rfl, rfl, rfl, rfl, rfl, rfl, rfl, rfl, rfl, rfl, rfl, rfl, rfl, trivial⟩)
                    refine WE.next ?_
                    refine WC.cond rfl (fun h115 => ?_) (fun h115 => ?_)
                    · have h115 : ((((jj : Nat) : Int) : Int) < ((((ndget L1 i).t.args.length : Nat) : Int) : Int)) ∧ ((((jj : Nat) : Int) : Int) < ((((ndget L2 k).t.args.length : Nat) : Int) : Int)) := by simpa using h115
                      have hlt2 : jj < (ndget L1 i).args.length ∧ jj < (ndget L2 k).args.length := by have z := h115; (try simp only [Bool.and_eq_true, decide_eq_true_eq] at z); omega
                      refine WC.skip ?_
                      refine WE.next ?_
                      refine WC.seq ?_
                      refine WC.block ?_
                      refine WC.seq ?_
                      have hB116 := hB106.below hb114
                      obtain ⟨b117, o118, A119, C120, ha121, hc122⟩ := IsTs.open (isT_row (hst0.n1.t i (by omega))).2.2.2
                      have hb123 : Below w0.heap.size w0 w113 := (bstep hb104 hb114)
                      have hB124 := hB107.below hb114
                      obtain ⟨b125, o126, A127, C128, ha129, hc130⟩ := IsTs.open (isT_row (hst0.n2.t k (by omega))).2.2.2
                      refine WC.opt [(true, .val (.pointer (some ⟨g2, 1, none⟩))), (true, .val (.slice ((q.A1 i)) ((ndget L1 i).t.args.length) ((q.C1 i)))), (true, .val (.int .i64 (((jj : Nat) : Int)))), (true, .val (.pointer (some ⟨b117, o118 + jj * 2, none⟩))), (true, .val (.agg #[.int .i64 ((tget ((ndget L1 i).t.args) jj).f), .slice ((A119 jj)) ((tget ((ndget L1 i).t.args) jj).args.length) ((C120 jj))])), (true, .val (.pointer (some ⟨g3, 1, none⟩))), (true, .val (.slice ((q.A2 k)) ((ndget L2 k).t.args.length) ((q.C2 k)))), (true, .val (.int .i64 (((jj : Nat) : Int)))), (true, .val (.pointer (some ⟨b125, o126 + jj * 2, none⟩))), (true, .val (.agg #[.int .i64 ((tget ((ndget L2 k).t.args) jj).f), .slice ((A127 jj)) ((tget ((ndget L2 k).t.args) jj).args.length) ((C128 jj))])), (true, .val (.bool ((T.same ((tget ((ndget L1 i).t.args) jj)) ((tget ((ndget L2 k).t.args) jj)))))), (true, .val (.bool ((!(T.same ((tget ((ndget L1 i).t.args) jj)) ((tget ((ndget L2 k).t.args) jj)))))))] [(0, .pointer (some ⟨q.gw, 0, none⟩)), (1, .int .i64 (((i : Nat) : Int))), (2, .int .i64 (((k : Nat) : Int))), (7, .pointer (some ⟨g2, 0, none⟩)), (8, .pointer (some ⟨g3, 0, none⟩)), (9, .int .i64 (((j : Nat) : Int))), (10, .int .i64 (((jj : Nat) : Int))), (29, .bool ((decide (((ndget L1 i).t.f : Int) < (0 : Int))))), (32, .bool ((decide (((ndget L2 k).t.f : Int) < (0 : Int))))), (48, .bool ((decide ((((j : Nat) : Int) : Int) < ((((ndget L1 i).args.length : Nat) : Int) : Int))))), (78, .bool ((((ndget L1 i).t.f : Int) != ((ndget L2 k).t.f : Int)))), (108, .bool ((!((ndget L2 k).t.args.all (o.lg (ndget L1 i).t))))), (120, .bool (((decide ((((jj : Nat) : Int) : Int) < ((((ndget L1 i).t.args.length : Nat) : Int) : Int))) && (decide ((((jj : Nat) : Int) : Int) < ((((ndget L2 k).t.args.length : Nat) : Int) : Int))))))] ⟨rfl, rfl, rfl, rfl, rfl, rfl, rfl, rfl, rfl, rfl, rfl, rfl, rfl, trivial⟩ (by kernel_rfl) (by kernel_rfl) (by kernel_rfl) ?_ ?_
                      · refine ⟨⟨true, .none rfl, fun h w => optUndef h, fun zβ za zw zc => ?_⟩, ?_⟩
                        · exact fld_27_1 rfl (zc.kn.ev rfl) ⟨_, rfl, Below.refl _ _, optDef zβ rfl⟩
                        refine ⟨⟨true, .none rfl, fun h w => optUndef h, fun zβ za zw zc => ?_⟩, ?_⟩
                        · exact ld_25 rfl ((show za.eval (.tmp 123) = za.tmps.getD 123 undef from rfl).trans (optVal (zc.dep 0 123 (by kernel_rfl)) rfl rfl)) (bkeeps zc.below _ _ ((hB116.cell 1).trans rfl)) ⟨_, rfl, Below.refl _ _, optDef zβ rfl⟩
                        refine ⟨⟨true, .none rfl, fun h w => optUndef h, fun zβ za zw zc => ?_⟩, ?_⟩
                        · exact wp_move rfl (zc.kn.ev rfl) ⟨_, rfl, Below.refl _ _, optDef zβ rfl⟩
                        refine ⟨⟨true, .none rfl, fun h w => optUndef h, fun zβ za zw zc => ?_⟩, ?_⟩
                        · exact ix_25 (k := jj) rfl ((show za.eval (.tmp 124) = za.tmps.getD 124 undef from rfl).trans (optVal (zc.dep 1 124 (by kernel_rfl)) rfl rfl)) (ha121 jj (by first | omega | (simp; omega))) ((show za.eval (.tmp 125) = za.tmps.getD 125 undef from rfl).trans (optVal (zc.dep 2 125 (by kernel_rfl)) rfl rfl)) (by first | omega | (simp; omega)) ⟨_, rfl, Below.refl _ _, optDef zβ rfl⟩
                        refine ⟨⟨true, .none rfl, fun h w => optUndef h, fun zβ za zw zc => ?_⟩, ?_⟩
                        · exact ld_27 rfl ((show za.eval (.tmp 126) = za.tmps.getD 126 undef from rfl).trans (optVal (zc.dep 3 126 (by kernel_rfl)) rfl rfl)) (bkeeps (bstep hb123 zc.below) _ _ (hc122 jj (by first | omega | (simp; omega))).1) (bkeeps (bstep hb123 zc.below) _ _ (hc122 jj (by first | omega | (simp; omega))).2.1) ⟨_, rfl, Below.refl _ _, optDef zβ rfl⟩
                        refine ⟨⟨true, .none rfl, fun h w => optUndef h, fun zβ za zw zc => ?_⟩, ?_⟩
                        · exact fld_27_1 rfl (zc.kn.ev rfl) ⟨_, rfl, Below.refl _ _, optDef zβ rfl⟩
                        refine ⟨⟨true, .none rfl, fun h w => optUndef h, fun zβ za zw zc => ?_⟩, ?_⟩
                        · exact ld_25 rfl ((show za.eval (.tmp 128) = za.tmps.getD 128 undef from rfl).trans (optVal (zc.dep 5 128 (by kernel_rfl)) rfl rfl)) (bkeeps zc.below _ _ ((hB124.cell 1).trans rfl)) ⟨_, rfl, Below.refl _ _, optDef zβ rfl⟩
                        refine ⟨⟨true, .none rfl, fun h w => optUndef h, fun zβ za zw zc => ?_⟩, ?_⟩
                        · exact wp_move rfl (zc.kn.ev rfl) ⟨_, rfl, Below.refl _ _, optDef zβ rfl⟩
                        refine ⟨⟨true, .none rfl, fun h w => optUndef h, fun zβ za zw zc => ?_⟩, ?_⟩
                        · exact ix_25 (k := jj) rfl ((show za.eval (.tmp 129) = za.tmps.getD 129 undef from rfl).trans (optVal (zc.dep 6 129 (by kernel_rfl)) rfl rfl)) (ha129 jj (by first | omega | (simp; omega))) ((show za.eval (.tmp 130) = za.tmps.getD 130 undef from rfl).trans (optVal (zc.dep 7 130 (by kernel_rfl)) rfl rfl)) (by first | omega | (simp; omega)) ⟨_, rfl, Below.refl _ _, optDef zβ rfl⟩
                        refine ⟨⟨true, .none rfl, fun h w => optUndef h, fun zβ za zw zc => ?_⟩, ?_⟩
                        · exact ld_27 rfl ((show za.eval (.tmp 131) = za.tmps.getD 131 undef from rfl).trans (optVal (zc.dep 8 131 (by kernel_rfl)) rfl rfl)) (bkeeps (bstep hb123 zc.below) _ _ (hc130 jj (by first | omega | (simp; omega))).1) (bkeeps (bstep hb123 zc.below) _ _ (hc130 jj (by first | omega | (simp; omega))).2.1) ⟨_, rfl, Below.refl _ _, optDef zβ rfl⟩
                        refine ⟨⟨true, .none rfl, fun h w => optUndef h, fun zβ za zw zc => ?_⟩, ?_⟩
                        · exact wp_call (by kernel_rfl) rfl (hv2 ((show za.eval (.tmp 127) = za.tmps.getD 127 undef from rfl).trans (optVal (zc.dep 4 127 (by kernel_rfl)) rfl rfl)) ((show za.eval (.tmp 132) = za.tmps.getD 132 undef from rfl).trans (optVal (zc.dep 9 132 (by kernel_rfl)) rfl rfl))) (ret_of (rsame_any ((tget ((ndget L1 i).t.args) jj)) ((tget ((ndget L2 k).t.args) jj)) _ _ _ (IsT.below (bstep hb123 zc.below) (hc122 jj (by first | omega | (simp; omega))).2.2) (IsT.below (bstep hb123 zc.below) (hc130 jj (by first | omega | (simp; omega))).2.2))) (fun v w' h => ⟨v, rfl, h.2, optDef zβ h.1⟩)
                        refine ⟨⟨true, .none rfl, fun h w => optUndef h, fun zβ za zw zc => ?_⟩, ?_⟩
                        · exact wp_not rfl ((show za.eval (.tmp 133) = za.tmps.getD 133 undef from rfl).trans (optVal (zc.dep 10 133 (by kernel_rfl)) rfl rfl)) ⟨_, rfl, Below.refl _ _, optDef zβ rfl⟩
                        exact trivial
                      · intro za w131 zh hb132 zu
                        have zh := zh.cons (d := 134) (v := .bool ((!(T.same ((tget ((ndget L1 i).t.args) jj)) ((tget ((ndget L2 k).t.args) jj)))))) (optVal (zu 11 134 (by kernel_rfl)) rfl rfl)
                        clear zu
                        refine (show WE _ [(0, .pointer (some ⟨q.gw, 0, none⟩)), (1, .int .i64 (((i : Nat) : Int))), (2, .int .i64 (((k : Nat) : Int))), (7, .pointer (some ⟨g2, 0, none⟩)), (8, .pointer (some ⟨g3, 0, none⟩)), (9, .int .i64 (((j : Nat) : Int))), (10, .int .i64 (((jj : Nat) : Int))), (29, .bool ((decide (((ndget L1 i).t.f : Int) < (0 : Int))))), (32, .bool ((decide (((ndget L2 k).t.f : Int) < (0 : Int))))), (48, .bool ((decide ((((j : Nat) : Int) : Int) < ((((ndget L1 i).args.length : Nat) : Int) : Int))))), (78, .bool ((((ndget L1 i).t.f : Int) != ((ndget L2 k).t.f : Int)))), (108, .bool ((!((ndget L2 k).t.args.all (o.lg (ndget L1 i).t))))), (120, .bool (((decide ((((jj : Nat) : Int) : Int) < ((((ndget L1 i).t.args.length : Nat) : Int) : Int))) && (decide ((((jj : Nat) : Int) : Int) < ((((ndget L2 k).t.args.length : Nat) : Int) : Int)))))), (134, .bool ((!(T.same ((tget ((ndget L1 i).t.args) jj)) ((tget ((ndget L2 k).t.args) jj))))))] w131 _ .normal from ?_) za (zh.sub ⟨rfl, rfl, rfl, rfl, rfl, rfl, rfl, rfl, rfl, rfl, rfl, rfl, rfl, rfl, trivial⟩)
                        refine WE.next ?_
                        refine WC.cond rfl (fun h133 => ?_) (fun h133 => ?_)
                        · have h133 : ¬ ((T.same ((tget ((ndget L1 i).t.args) jj)) ((tget ((ndget L2 k).t.args) jj))) = true) := by simpa using h133
                          refine WC.seq ?_
                          have hb135 : Below w102.heap.size w102 w131 := (bstep hb114 hb132)
                          have hB134 := hB105.below hb135
                          have hc1 := nd_child (hH.g1 i hi) (j := jj) (by omega)
                          have hc2 := nd_child (hH.g2 k hk) (j := jj) (by omega)
                          have hs1 := size_child (t := (ndget L1 i).t) (k := jj) (by omega)
                          have hs2 := size_child (t := (ndget L2 k).t) (k := jj) (by omega)
                          have he1 := congrArg T.size hc1.2
                          have he2 := congrArg T.size hc2.2
                          refine WC.optc [(true, .pointer (some ⟨q.gw, 0, none⟩)), (true, .pointer (some ⟨q.gw, 0, none⟩)), (true, .pointer (some ⟨q.gw, 0, none⟩)), (true, .pointer (some ⟨q.gw, 4, none⟩)), (true, .slice ((some ⟨q.b1, 0, none⟩)) L1.length q.r1), (true, .int .i64 (((i : Nat) : Int))), (true, .pointer (some ⟨q.b1, 0 + i * 3, none⟩)), (true, .pointer (some ⟨q.b1, 0 + i * 3 + 2, none⟩)), (true, .slice ((q.X1 i)) ((ndget L1 i).args.length) ((q.Z1 i))), (true, .int .i64 (((jj : Nat) : Int))), (true, .pointer (some ⟨(q.x1 i), 0 + jj, none⟩)), (true, .int .i64 (((((ndget L1 i).args.getD jj 0) : Nat) : Int))), (true, .pointer (some ⟨q.gw, 0, none⟩)), (true, .pointer (some ⟨q.gw, 0, none⟩)), (true, .pointer (some ⟨q.gw, 5, none⟩)), (true, .slice ((some ⟨q.b2, 0, none⟩)) L2.length q.r2), (true, .int .i64 (((k : Nat) : Int))), (true, .pointer (some ⟨q.b2, 0 + k * 3, none⟩)), (true, .pointer (some ⟨q.b2, 0 + k * 3 + 2, none⟩)), (true, .slice ((q.X2 k)) ((ndget L2 k).args.length) ((q.Z2 k))), (true, .int .i64 (((jj : Nat) : Int))), (true, .pointer (some ⟨(q.x2 k), 0 + jj, none⟩)), (true, .int .i64 (((((ndget L2 k).args.getD jj 0) : Nat) : Int))), (true, .bool ((o.lg (ndget L1 (((ndget L1 i).args.getD jj 0))).t (ndget L2 (((ndget L2 k).args.getD jj 0))).t))), (true, .bool ((o.lg (ndget L1 (((ndget L1 i).args.getD jj 0))).t (ndget L2 (((ndget L2 k).args.getD jj 0))).t)))] [(0, .pointer (some ⟨q.gw, 0, none⟩)), (1, .int .i64 (((i : Nat) : Int))), (2, .int .i64 (((k : Nat) : Int))), (7, .pointer (some ⟨g2, 0, none⟩)), (8, .pointer (some ⟨g3, 0, none⟩)), (9, .int .i64 (((j : Nat) : Int))), (10, .int .i64 (((jj : Nat) : Int))), (29, .bool ((decide (((ndget L1 i).t.f : Int) < (0 : Int))))), (32, .bool ((decide (((ndget L2 k).t.f : Int) < (0 : Int))))), (48, .bool ((decide ((((j : Nat) : Int) : Int) < ((((ndget L1 i).args.length : Nat) : Int) : Int))))), (78, .bool ((((ndget L1 i).t.f : Int) != ((ndget L2 k).t.f : Int)))), (108, .bool ((!((ndget L2 k).t.args.all (o.lg (ndget L1 i).t))))), (120, .bool (((decide ((((jj : Nat) : Int) : Int) < ((((ndget L1 i).t.args.length : Nat) : Int) : Int))) && (decide ((((jj : Nat) : Int) : Int) < ((((ndget L2 k).t.args.length : Nat) : Int) : Int)))))), (134, .bool ((!(T.same ((tget ((ndget L1 i).t.args) jj)) ((tget ((ndget L2 k).t.args) jj))))))] (S := (fun b => q.lo ≤ b ∧ b ≤ q.hi)) (I := (RefSt o L1 L2 q w0 wa E)) (fun _ _ hb h => h.bel hb) (hstl.bel hb135) ⟨rfl, rfl, rfl, rfl, rfl, rfl, rfl, rfl, rfl, rfl, rfl, rfl, rfl, rfl, trivial⟩ (by kernel_rfl) (by kernel_rfl) (by kernel_rfl) ?_ ?_
                          · refine ⟨⟨true, .none rfl, fun h => optUndef h, fun zβ za zw zc => ?_⟩, ?_⟩
                            · exact wp_move rfl (zc.kn.ev rfl) ⟨_, rfl, zc.chg, zc.inv, optDef zβ rfl⟩
                            refine ⟨⟨true, .none rfl, fun h => optUndef h, fun zβ za zw zc => ?_⟩, ?_⟩
                            · exact wp_move rfl (zc.kn.ev rfl) ⟨_, rfl, zc.chg, zc.inv, optDef zβ rfl⟩
                            refine ⟨⟨true, .none rfl, fun h => optUndef h, fun zβ za zw zc => ?_⟩, ?_⟩
                            · exact nilCheck_ rfl ((show za.eval (.tmp 136) = za.tmps.getD 136 undef from rfl).trans (valVal (zc.dep 1 136 (by kernel_rfl)) rfl rfl)) ⟨_, rfl, zc.chg, zc.inv, optDef zβ rfl⟩
                            refine ⟨⟨true, .none rfl, fun h => optUndef h, fun zβ za zw zc => ?_⟩, ?_⟩
                            · exact fld_67_1 rfl ((show za.eval (.tmp 137) = za.tmps.getD 137 undef from rfl).trans (valVal (zc.dep 2 137 (by kernel_rfl)) rfl rfl)) ⟨_, rfl, zc.chg, zc.inv, optDef zβ rfl⟩
                            refine ⟨⟨true, .none rfl, fun h => optUndef h, fun zβ za zw zc => ?_⟩, ?_⟩
                            · exact ld_63 rfl ((show za.eval (.tmp 138) = za.tmps.getD 138 undef from rfl).trans (valVal (zc.dep 3 138 (by kernel_rfl)) rfl rfl)) (chg_cell zc.chg (by (try dsimp only at *); omega) ((hB134.cell 4).trans rfl)) ⟨_, rfl, zc.chg, zc.inv, optDef zβ rfl⟩
                            refine ⟨⟨true, .none rfl, fun h => optUndef h, fun zβ za zw zc => ?_⟩, ?_⟩
                            · exact wp_move rfl (zc.kn.ev rfl) ⟨_, rfl, zc.chg, zc.inv, optDef zβ rfl⟩
                            refine ⟨⟨true, .none rfl, fun h => optUndef h, fun zβ za zw zc => ?_⟩, ?_⟩
                            · exact ix_63 (k := i) rfl ((show za.eval (.tmp 139) = za.tmps.getD 139 undef from rfl).trans (valVal (zc.dep 4 139 (by kernel_rfl)) rfl rfl)) rfl ((show za.eval (.tmp 140) = za.tmps.getD 140 undef from rfl).trans (valVal (zc.dep 5 140 (by kernel_rfl)) rfl rfl)) (by first | omega | (simp; omega)) ⟨_, rfl, zc.chg, zc.inv, optDef zβ rfl⟩
                            refine ⟨⟨true, .none rfl, fun h => optUndef h, fun zβ za zw zc => ?_⟩, ?_⟩
                            · exact fld_84_1 rfl ((show za.eval (.tmp 141) = za.tmps.getD 141 undef from rfl).trans (valVal (zc.dep 6 141 (by kernel_rfl)) rfl rfl)) ⟨_, rfl, zc.chg, zc.inv, optDef zβ rfl⟩
                            refine ⟨⟨true, .none rfl, fun h => optUndef h, fun zβ za zw zc => ?_⟩, ?_⟩
                            · exact ld_22 rfl ((show za.eval (.tmp 142) = za.tmps.getD 142 undef from rfl).trans (valVal (zc.dep 7 142 (by kernel_rfl)) rfl rfl)) (zc.inv.n1.c2 i (by first | omega | (simp; omega))) ⟨_, rfl, zc.chg, zc.inv, optDef zβ rfl⟩
                            refine ⟨⟨true, .none rfl, fun h => optUndef h, fun zβ za zw zc => ?_⟩, ?_⟩
                            · exact wp_move rfl (zc.kn.ev rfl) ⟨_, rfl, zc.chg, zc.inv, optDef zβ rfl⟩
                            refine ⟨⟨true, .none rfl, fun h => optUndef h, fun zβ za zw zc => ?_⟩, ?_⟩
                            · exact ix_22 (k := jj) rfl ((show za.eval (.tmp 143) = za.tmps.getD 143 undef from rfl).trans (valVal (zc.dep 8 143 (by kernel_rfl)) rfl rfl)) (hst0.n1.x i jj (by omega) (by first | omega | (simp; omega))).1 ((show za.eval (.tmp 144) = za.tmps.getD 144 undef from rfl).trans (valVal (zc.dep 9 144 (by kernel_rfl)) rfl rfl)) (by first | omega | (simp; omega)) ⟨_, rfl, zc.chg, zc.inv, optDef zβ rfl⟩
                            refine ⟨⟨true, .none rfl, fun h => optUndef h, fun zβ za zw zc => ?_⟩, ?_⟩
                            · exact ld_3 rfl ((show za.eval (.tmp 145) = za.tmps.getD 145 undef from rfl).trans (valVal (zc.dep 10 145 (by kernel_rfl)) rfl rfl)) (zc.inv.n1.x i jj (by omega) (by first | omega | (simp; omega))).2 ⟨_, rfl, zc.chg, zc.inv, optDef zβ rfl⟩
                            refine ⟨⟨true, .none rfl, fun h => optUndef h, fun zβ za zw zc => ?_⟩, ?_⟩
                            · exact wp_move rfl (zc.kn.ev rfl) ⟨_, rfl, zc.chg, zc.inv, optDef zβ rfl⟩
                            refine ⟨⟨true, .none rfl, fun h => optUndef h, fun zβ za zw zc => ?_⟩, ?_⟩
                            · exact nilCheck_ rfl ((show za.eval (.tmp 147) = za.tmps.getD 147 undef from rfl).trans (valVal (zc.dep 12 147 (by kernel_rfl)) rfl rfl)) ⟨_, rfl, zc.chg, zc.inv, optDef zβ rfl⟩
                            refine ⟨⟨true, .none rfl, fun h => optUndef h, fun zβ za zw zc => ?_⟩, ?_⟩
                            · exact fld_67_2 rfl ((show za.eval (.tmp 148) = za.tmps.getD 148 undef from rfl).trans (valVal (zc.dep 13 148 (by kernel_rfl)) rfl rfl)) ⟨_, rfl, zc.chg, zc.inv, optDef zβ rfl⟩
                            refine ⟨⟨true, .none rfl, fun h => optUndef h, fun zβ za zw zc => ?_⟩, ?_⟩
                            · exact ld_63 rfl ((show za.eval (.tmp 149) = za.tmps.getD 149 undef from rfl).trans (valVal (zc.dep 14 149 (by kernel_rfl)) rfl rfl)) (chg_cell zc.chg (by (try dsimp only at *); omega) ((hB134.cell 5).trans rfl)) ⟨_, rfl, zc.chg, zc.inv, optDef zβ rfl⟩
                            refine ⟨⟨true, .none rfl, fun h => optUndef h, fun zβ za zw zc => ?_⟩, ?_⟩
                            · exact wp_move rfl (zc.kn.ev rfl) ⟨_, rfl, zc.chg, zc.inv, optDef zβ rfl⟩
                            refine ⟨⟨true, .none rfl, fun h => optUndef h, fun zβ za zw zc => ?_⟩, ?_⟩
                            · exact ix_63 (k := k) rfl ((show za.eval (.tmp 150) = za.tmps.getD 150 undef from rfl).trans (valVal (zc.dep 15 150 (by kernel_rfl)) rfl rfl)) rfl ((show za.eval (.tmp 151) = za.tmps.getD 151 undef from rfl).trans (valVal (zc.dep 16 151 (by kernel_rfl)) rfl rfl)) (by first | omega | (simp; omega)) ⟨_, rfl, zc.chg, zc.inv, optDef zβ rfl⟩
                            refine ⟨⟨true, .none rfl, fun h => optUndef h, fun zβ za zw zc => ?_⟩, ?_⟩
                            · exact fld_84_1 rfl ((show za.eval (.tmp 152) = za.tmps.getD 152 undef from rfl).trans (valVal (zc.dep 17 152 (by kernel_rfl)) rfl rfl)) ⟨_, rfl, zc.chg, zc.inv, optDef zβ rfl⟩
                            refine ⟨⟨true, .none rfl, fun h => optUndef h, fun zβ za zw zc => ?_⟩, ?_⟩
                            · exact ld_22 rfl ((show za.eval (.tmp 153) = za.tmps.getD 153 undef from rfl).trans (valVal (zc.dep 18 153 (by kernel_rfl)) rfl rfl)) (zc.inv.n2.c2 k (by first | omega | (simp; omega))) ⟨_, rfl, zc.chg, zc.inv, optDef zβ rfl⟩
                            refine ⟨⟨true, .none rfl, fun h => optUndef h, fun zβ za zw zc => ?_⟩, ?_⟩
                            · exact wp_move rfl (zc.kn.ev rfl) ⟨_, rfl, zc.chg, zc.inv, optDef zβ rfl⟩
                            refine ⟨⟨true, .none rfl, fun h => optUndef h, fun zβ za zw zc => ?_⟩, ?_⟩
                            · exact ix_22 (k := jj) rfl ((show za.eval (.tmp 154) = za.tmps.getD 154 undef from rfl).trans (valVal (zc.dep 19 154 (by kernel_rfl)) rfl rfl)) (hst0.n2.x k jj (by omega) (by first | omega | (simp; omega))).1 ((show za.eval (.tmp 155) = za.tmps.getD 155 undef from rfl).trans (valVal (zc.dep 20 155 (by kernel_rfl)) rfl rfl)) (by first | omega | (simp; omega)) ⟨_, rfl, zc.chg, zc.inv, optDef zβ rfl⟩
                            refine ⟨⟨true, .none rfl, fun h => optUndef h, fun zβ za zw zc => ?_⟩, ?_⟩
                            · exact ld_3 rfl ((show za.eval (.tmp 156) = za.tmps.getD 156 undef from rfl).trans (valVal (zc.dep 21 156 (by kernel_rfl)) rfl rfl)) (zc.inv.n2.x k jj (by omega) (by first | omega | (simp; omega))).2 ⟨_, rfl, zc.chg, zc.inv, optDef zβ rfl⟩
                            refine ⟨⟨true, .none rfl, fun h => optUndef h, fun zβ za zw zc => ?_⟩, ?_⟩
                            · exact wp_call (by kernel_rfl) rfl (hv3 ((show za.eval (.tmp 135) = za.tmps.getD 135 undef from rfl).trans (valVal (zc.dep 0 135 (by kernel_rfl)) rfl rfl)) ((show za.eval (.tmp 146) = za.tmps.getD 146 undef from rfl).trans (valVal (zc.dep 11 146 (by kernel_rfl)) rfl rfl)) ((show za.eval (.tmp 157) = za.tmps.getD 157 undef from rfl).trans (valVal (zc.dep 22 157 (by kernel_rfl)) rfl rfl))) (hA (((ndget L1 i).args.getD jj 0)) (((ndget L2 k).args.getD jj 0)) E _ (by omega) (by omega) (by omega) (fun a b h => by have := hE a b h; omega) zc.inv) (fun v w' h => ⟨v, rfl, zc.chg.trans h.2.2, h.2.1, optDef zβ h.1⟩)
                            refine ⟨⟨true, .none rfl, fun h => optUndef h, fun zβ za zw zc => ?_⟩, ?_⟩
                            · exact wp_assign rfl ((show za.eval (.tmp 158) = za.tmps.getD 158 undef from rfl).trans (valVal (zc.dep 23 158 (by kernel_rfl)) rfl rfl)) ⟨_, rfl, zc.chg, zc.inv, optDef zβ rfl⟩
                            exact trivial
                          · intro za w138 zh hb139 hst140 zu
                            have hl141 := hB134.lt
                            have hB142 := hB116.below hb132
                            have hl143 := hB142.lt
                            have hB144 := hB124.below hb132
                            have hl145 := hB144.lt
                            have hb146 : Below w0.heap.size w0 w131 := (bstep hb104 hb135)
                            have hb147 := chg_below hb146 hb139 (fun b hb => (by (try dsimp only at *); omega))
                            have hB148 := chg_blk hB134 hb139 (by (try dsimp only at *); omega)
                            have hB149 := chg_blk hB142 hb139 (by (try dsimp only at *); omega)
                            have hB150 := chg_blk hB144 hb139 (by (try dsimp only at *); omega)
                            obtain ⟨hl151, hl152, hl153, hl154⟩ := hst140.glt
                            have zh := zh.cons (d := 6) (v := .bool ((o.lg (ndget L1 (((ndget L1 i).args.getD jj 0))).t (ndget L2 (((ndget L2 k).args.getD jj 0))).t))) (valVal (zu 24 6 (by kernel_rfl)) rfl rfl)
                            clear zu
                            refine (show WE _ [(0, .pointer (some ⟨q.gw, 0, none⟩)), (1, .int .i64 (((i : Nat) : Int))), (2, .int .i64 (((k : Nat) : Int))), (6, .bool ((o.lg (ndget L1 (((ndget L1 i).args.getD jj 0))).t (ndget L2 (((ndget L2 k).args.getD jj 0))).t))), (7, .pointer (some ⟨g2, 0, none⟩)), (8, .pointer (some ⟨g3, 0, none⟩)), (9, .int .i64 (((j : Nat) : Int))), (10, .int .i64 (((jj : Nat) : Int))), (29, .bool ((decide (((ndget L1 i).t.f : Int) < (0 : Int))))), (32, .bool ((decide (((ndget L2 k).t.f : Int) < (0 : Int))))), (48, .bool ((decide ((((j : Nat) : Int) : Int) < ((((ndget L1 i).args.length : Nat) : Int) : Int))))), (78, .bool ((((ndget L1 i).t.f : Int) != ((ndget L2 k).t.f : Int)))), (108, .bool ((!((ndget L2 k).t.args.all (o.lg (ndget L1 i).t))))), (120, .bool (((decide ((((jj : Nat) : Int) : Int) < ((((ndget L1 i).t.args.length : Nat) : Int) : Int))) && (decide ((((jj : Nat) : Int) : Int) < ((((ndget L2 k).t.args.length : Nat) : Int) : Int)))))), (134, .bool ((!(T.same ((tget ((ndget L1 i).t.args) jj)) ((tget ((ndget L2 k).t.args) jj))))))] w138 _ .normal from ?_) za (zh.sub ⟨rfl, rfl, rfl, rfl, rfl, rfl, rfl, rfl, rfl, rfl, rfl, rfl, rfl, rfl, rfl, trivial⟩)
                            refine WE.next ?_
                            refine WC.ret ?_
                            refine WE.blockRet ?_
                            refine WE.thenRet ?_
                            refine WE.thenRet ?_
                            refine WE.blockRet ?_
                            refine WE.thenRet ?_
                            refine WE.ret1 rfl rfl ?_
                            have hs155 : Chg ((fun b => q.lo ≤ b ∧ b ≤ q.hi)) w w138 := (Chg.trans2 (Chg.trans2 (Chg.trans2 (Chg.refl ((fun b => q.lo ≤ b ∧ b ≤ q.hi)) _) hc108 (fun i h1 h2 => by (try dsimp only at *); omega)) (Chg.ofBelow (S := fun k => k < 0) hb135) (fun i h1 h2 => by (try dsimp only at *); omega)) hb139 (fun i h1 h2 => by (try dsimp only at *); omega))
                            exact ⟨_, rfl, congrArg Value.bool (by rw [hrest, Bool.true_and]; exact lex_at hlex (by omega) (by omega) (by have z := h133; simpa using z) hc1.2 hc2.2), hst140, hs155⟩
                        · have h133 : ¬ (¬ ((T.same ((tget ((ndget L1 i).t.args) jj)) ((tget ((ndget L2 k).t.args) jj))) = true)) := by simpa using h133
                          refine WC.skip ?_
                          refine WE.blockNormal ?_
                          refine WE.next ?_
                          refine WC.region ?_
                          refine WL.val (.int .i64 (((jj : Nat) : Int))) rfl rfl rfl (fun za zC zh zk => wp_move rfl (zh.ev rfl) zk) ?_
                          refine WL.val (.int .i64 ((((jj + 1) : Nat) : Int))) rfl rfl rfl (fun za zC zh zk => addb_3 rfl (zh.ev rfl) (zh.ev rfl) (wrap_eq (by omega) (by omega) (by omega)) zk) ?_
                          refine WL.val (.int .i64 ((((jj + 1) : Nat) : Int))) rfl rfl rfl (fun za zC zh zk => wp_assign rfl (zh.ev rfl) zk) ?_
                          refine WL.nil (WE.sub (K' := [(0, .pointer (some ⟨q.gw, 0, none⟩)), (1, .int .i64 (((i : Nat) : Int))), (2, .int .i64 (((k : Nat) : Int))), (7, .pointer (some ⟨g2, 0, none⟩)), (8, .pointer (some ⟨g3, 0, none⟩)), (9, .int .i64 (((j : Nat) : Int))), (10, .int .i64 ((((jj + 1) : Nat) : Int))), (29, .bool ((decide (((ndget L1 i).t.f : Int) < (0 : Int))))), (32, .bool ((decide (((ndget L2 k).t.f : Int) < (0 : Int))))), (48, .bool ((decide ((((j : Nat) : Int) : Int) < ((((ndget L1 i).args.length : Nat) : Int) : Int))))), (78, .bool ((((ndget L1 i).t.f : Int) != ((ndget L2 k).t.f : Int)))), (108, .bool ((!((ndget L2 k).t.args.all (o.lg (ndget L1 i).t))))), (120, .bool (((decide ((((jj : Nat) : Int) : Int) < ((((ndget L1 i).t.args.length : Nat) : Int) : Int))) && (decide ((((jj : Nat) : Int) : Int) < ((((ndget L2 k).t.args.length : Nat) : Int) : Int)))))), (134, .bool ((!(T.same ((tget ((ndget L1 i).t.args) jj)) ((tget ((ndget L2 k).t.args) jj))))))]) ⟨rfl, rfl, rfl, rfl, rfl, rfl, rfl, rfl, rfl, rfl, rfl, rfl, rfl, rfl, trivial⟩ ?_)
                          have hb156 : Below w102.heap.size w102 w131 := (bstep hb114 hb132)
                          refine WE.round (jj + 1) ⟨rfl, rfl, rfl, rfl, rfl, rfl, rfl, rfl, rfl, rfl, rfl, rfl, trivial⟩ ?_ ?_
                          · have hb157 : Below w0.heap.size w0 w131 := (bstep hb104 hb156)
                            have hB158 := hB105.below hb156
                            have hB159 := hB116.below hb132
                            have hB160 := hB124.below hb132
                            have hs161 : Chg ((fun b => q.lo ≤ b ∧ b ≤ q.hi)) w w131 := (Chg.trans2 (Chg.trans2 (Chg.refl ((fun b => q.lo ≤ b ∧ b ≤ q.hi)) _) hc108 (fun i h1 h2 => by (try dsimp only at *); omega)) (Chg.ofBelow (S := fun k => k < 0) hb156) (fun i h1 h2 => by (try dsimp only at *); omega))
                            exact ⟨by omega, by omega, hlex.trans (lex_same (by omega) (by omega) (by have z := h133; simpa using z)), (hstl.bel hb156), hb157, hB158, hB159, hB160, hs161⟩
                          · omega
                    · have h115 : ¬ (((((jj : Nat) : Int) : Int) < ((((ndget L1 i).t.args.length : Nat) : Int) : Int)) ∧ ((((jj : Nat) : Int) : Int) < ((((ndget L2 k).t.args.length : Nat) : Int) : Int))) := by simpa using h115
                      have hge2 : ¬ (jj < (ndget L1 i).args.length ∧ jj < (ndget L2 k).args.length) := by have z := h115; (try simp only [Bool.and_eq_true, decide_eq_true_eq] at z); omega
                      refine WC.exit ?_
                      refine WE.thenExit ?_
                      refine WE.thenExit ?_
                      refine WE.blockIs rfl ?_
                      refine WE.next ?_
                      refine WC.seq ?_
                      refine WC.region ?_
                      refine WL.val (.pointer (some ⟨g2, 1, none⟩)) rfl rfl rfl (fun za zC zh zk => fld_27_1 rfl (zh.ev rfl) zk) ?_
                      have hB162 := hB106.below hb114
                      refine WL.val (.slice ((q.A1 i)) ((ndget L1 i).t.args.length) ((q.C1 i))) rfl rfl rfl (fun za zC zh zk => ld_25 rfl (zh.ev rfl) ((hB162.cell 1).trans rfl) zk) ?_
                      refine WL.val (.int .i64 ((((ndget L1 i).t.args.length : Nat) : Int))) rfl rfl rfl (fun za zC zh zk => len_25 rfl (zh.ev rfl) zk) ?_
                      refine WL.val (.pointer (some ⟨g3, 1, none⟩)) rfl rfl rfl (fun za zC zh zk => fld_27_1 rfl (zh.ev rfl) zk) ?_
                      have hB163 := hB107.below hb114
                      refine WL.val (.slice ((q.A2 k)) ((ndget L2 k).t.args.length) ((q.C2 k))) rfl rfl rfl (fun za zC zh zk => ld_25 rfl (zh.ev rfl) ((hB163.cell 1).trans rfl) zk) ?_
                      refine WL.val (.int .i64 ((((ndget L2 k).t.args.length : Nat) : Int))) rfl rfl rfl (fun za zC zh zk => len_25 rfl (zh.ev rfl) zk) ?_
                      refine WL.val (.bool ((decide (((((ndget L2 k).t.args.length : Nat) : Int) : Int) < ((((ndget L1 i).t.args.length : Nat) : Int) : Int))))) rfl rfl rfl (fun za zC zh zk => gtr_3 rfl (zh.ev rfl) (zh.ev rfl) zk) ?_
                      refine WL.val (.bool ((decide (((((ndget L2 k).t.args.length : Nat) : Int) : Int) < ((((ndget L1 i).t.args.length : Nat) : Int) : Int))))) rfl rfl rfl (fun za zC zh zk => wp_assign rfl (zh.ev rfl) zk) ?_
                      refine WL.nil (WE.sub (K' := [(0, .pointer (some ⟨q.gw, 0, none⟩)), (1, .int .i64 (((i : Nat) : Int))), (2, .int .i64 (((k : Nat) : Int))), (6, .bool ((decide (((((ndget L2 k).t.args.length : Nat) : Int) : Int) < ((((ndget L1 i).t.args.length : Nat) : Int) : Int))))), (7, .pointer (some ⟨g2, 0, none⟩)), (8, .pointer (some ⟨g3, 0, none⟩)), (9, .int .i64 (((j : Nat) : Int))), (10, .int .i64 (((jj : Nat) : Int))), (29, .bool ((decide (((ndget L1 i).t.f : Int) < (0 : Int))))), (32, .bool ((decide (((ndget L2 k).t.f : Int) < (0 : Int))))), (48, .bool ((decide ((((j : Nat) : Int) : Int) < ((((ndget L1 i).args.length : Nat) : Int) : Int))))), (78, .bool ((((ndget L1 i).t.f : Int) != ((ndget L2 k).t.f : Int)))), (108, .bool ((!((ndget L2 k).t.args.all (o.lg (ndget L1 i).t))))), (120, .bool (((decide ((((jj : Nat) : Int) : Int) < ((((ndget L1 i).t.args.length : Nat) : Int) : Int))) && (decide ((((jj : Nat) : Int) : Int) < ((((ndget L2 k).t.args.length : Nat) : Int) : Int))))))]) ⟨rfl, rfl, rfl, rfl, rfl, rfl, rfl, rfl, rfl, rfl, rfl, rfl, rfl, rfl, trivial⟩ ?_)
                      refine WE.next ?_
                      refine WC.ret ?_
                      refine WE.ret1 rfl rfl ?_
                      have hs164 : Chg ((fun b => q.lo ≤ b ∧ b ≤ q.hi)) w w113 := (Chg.trans2 (Chg.trans2 (Chg.refl ((fun b => q.lo ≤ b ∧ b ≤ q.hi)) _) hc108 (fun i h1 h2 => by (try dsimp only at *); omega)) (Chg.ofBelow (S := fun k => k < 0) hb114) (fun i h1 h2 => by (try dsimp only at *); omega))
                      exact ⟨_, rfl, congrArg Value.bool (by rw [hrest, Bool.true_and]; exact lex_fin hlex rfl rfl (by omega)), (hstl.bel hb114), hs164⟩

end Go.Proofs.Ytlkiabgpnboicaa
