/- The lexicographic path order of the document: the walk that remembers. -/
import Derived.Test.YtlkiabgpnboicaaRefWalk
namespace Go.Proofs.Ytlkiabgpnboicaa
open Go.RowKit Go

theorem found_b {m : Int} {b : Bool} (h : FoundOk m b) (h0 : ¬ m = 0) : (m == 1) = b := by
  rcases h with h | h
  · exact absurd h h0
  · subst h; cases b <;> rfl
set_option maxRecDepth 100000 in
set_option maxHeartbeats 1000000 in
theorem rabove_step (o : Od) (L1 L2 : List Nd) (q : RefQ) (w0 wa : World) (n : Nat) (hH : LpoH o L1 L2) (hA : RAboveOK o L1 L2 q w0 wa n) : RAboveOK o L1 L2 q w0 wa (n + 1) := by
  intro i k E w hi hk hz hE hst
  have hnE : ¬ E i k := fun h => absurd (hE i k h) (Nat.lt_irrefl _)
  obtain ⟨m0, hm0, _, hf0⟩ := hst.get hi hk
  have hF := hst.mid i hi
  have hst0 := hst
  obtain ⟨hl1, hl2, hl3, hl4⟩ := hst.glt
  refine Calls.walk (l := [.pointer (some ⟨q.gw, 0, none⟩), .int .i64 (((i : Nat) : Int)), .int .i64 (((k : Nat) : Int))]) Try.func34 rfl (by kernel_rfl) ?_
  refine WC.sub (K' := [(0, .pointer (some ⟨q.gw, 0, none⟩)), (1, .int .i64 (((i : Nat) : Int))), (2, .int .i64 (((k : Nat) : Int)))]) ⟨rfl, rfl, rfl, trivial⟩ ?_
  refine WC.seq ?_
  refine WC.region ?_
  refine WL.val (.bool false) rfl rfl rfl (fun za zC zh zk => wp_assign rfl (zh.ev rfl) zk) ?_
  refine WL.nil (WE.sub (K' := [(0, .pointer (some ⟨q.gw, 0, none⟩)), (1, .int .i64 (((i : Nat) : Int))), (2, .int .i64 (((k : Nat) : Int))), (6, .bool false)]) ⟨rfl, rfl, rfl, rfl, trivial⟩ ?_)
  refine WE.next ?_
  refine WC.seq ?_
  refine WC.seq ?_
  refine WC.region ?_
  refine WL.val (.pointer (some ⟨q.gw, 0, none⟩)) rfl rfl rfl (fun za zC zh zk => wp_move rfl (zh.ev rfl) zk) ?_
  refine WL.val (.pointer (some ⟨q.gw, 0, none⟩)) rfl rfl rfl (fun za zC zh zk => nilCheck_ rfl (zh.ev rfl) zk) ?_
  refine WL.val (.pointer (some ⟨q.gw, 6, none⟩)) rfl rfl rfl (fun za zC zh zk => fld_67_3 rfl (zh.ev rfl) zk) ?_
  refine WL.val (.slice ((some ⟨q.fb, 0, none⟩)) L1.length q.fc) rfl rfl rfl (fun za zC zh zk => ld_65 rfl (zh.ev rfl) ((hst.blk.cell 6).trans rfl) zk) ?_
  refine WL.val (.int .i64 (((i : Nat) : Int))) rfl rfl rfl (fun za zC zh zk => wp_move rfl (zh.ev rfl) zk) ?_
  refine WL.val (.pointer (some ⟨q.fb, 0 + i, none⟩)) rfl rfl rfl (fun za zC zh zk => ix_65 (k := i) rfl (zh.ev rfl) rfl (zh.ev rfl) (by first | omega | (simp; omega)) zk) ?_
  refine WL.val (.slice ((some ⟨q.F i, 0, none⟩)) L2.length L2.length) rfl rfl rfl (fun za zC zh zk => ld_22 rfl (zh.ev rfl) (hst.outer i (by first | omega | (simp; omega))) zk) ?_
  refine WL.val (.int .i64 (((k : Nat) : Int))) rfl rfl rfl (fun za zC zh zk => wp_move rfl (zh.ev rfl) zk) ?_
  refine WL.val (.pointer (some ⟨(q.F i), 0 + k, none⟩)) rfl rfl rfl (fun za zC zh zk => ix_22 (k := k) rfl (zh.ev rfl) rfl (zh.ev rfl) (by first | omega | (simp; omega)) zk) ?_
  refine WL.val (.int .i64 m0) rfl rfl rfl (fun za zC zh zk => ld_3 rfl (zh.ev rfl) hm0 zk) ?_
  refine WL.val (.bool (((m0 : Int) == (0 : Int)))) rfl rfl rfl (fun za zC zh zk => eql_3 rfl (zh.ev rfl) (zh.ev rfl) zk) ?_
  refine WL.nil (WE.sub (K' := [(0, .pointer (some ⟨q.gw, 0, none⟩)), (1, .int .i64 (((i : Nat) : Int))), (2, .int .i64 (((k : Nat) : Int))), (6, .bool false), (17, .bool (((m0 : Int) == (0 : Int))))]) ⟨rfl, rfl, rfl, rfl, rfl, trivial⟩ ?_)
  refine WE.next ?_
  refine WC.cond rfl (fun h1 => ?_) (fun h1 => ?_)
  · have h1 : (m0 : Int) = (0 : Int) := by simpa using h1
    refine WC.seq ?_
    refine WC.region ?_
    refine WL.val (.pointer (some ⟨q.gw, 0, none⟩)) rfl rfl rfl (fun za zC zh zk => wp_move rfl (zh.ev rfl) zk) ?_
    refine WL.val (.pointer (some ⟨q.gw, 0, none⟩)) rfl rfl rfl (fun za zC zh zk => nilCheck_ rfl (zh.ev rfl) zk) ?_
    refine WL.val (.pointer (some ⟨q.gw, 6, none⟩)) rfl rfl rfl (fun za zC zh zk => fld_67_3 rfl (zh.ev rfl) zk) ?_
    refine WL.val (.slice ((some ⟨q.fb, 0, none⟩)) L1.length q.fc) rfl rfl rfl (fun za zC zh zk => ld_65 rfl (zh.ev rfl) ((hst.blk.cell 6).trans rfl) zk) ?_
    refine WL.val (.int .i64 (((i : Nat) : Int))) rfl rfl rfl (fun za zC zh zk => wp_move rfl (zh.ev rfl) zk) ?_
    refine WL.val (.pointer (some ⟨q.fb, 0 + i, none⟩)) rfl rfl rfl (fun za zC zh zk => ix_65 (k := i) rfl (zh.ev rfl) rfl (zh.ev rfl) (by first | omega | (simp; omega)) zk) ?_
    refine WL.val (.slice ((some ⟨q.F i, 0, none⟩)) L2.length L2.length) rfl rfl rfl (fun za zC zh zk => ld_22 rfl (zh.ev rfl) (hst.outer i (by first | omega | (simp; omega))) zk) ?_
    refine WL.val (.int .i64 (((k : Nat) : Int))) rfl rfl rfl (fun za zC zh zk => wp_move rfl (zh.ev rfl) zk) ?_
    refine WL.val (.pointer (some ⟨(q.F i), 0 + k, none⟩)) rfl rfl rfl (fun za zC zh zk => ix_22 (k := k) rfl (zh.ev rfl) rfl (zh.ev rfl) (by first | omega | (simp; omega)) zk) ?_
    obtain ⟨cur2, hB3, hcs4⟩ := RefSt.row hst hi
    refine WL.step (post := fun _ w' => w' = w.setCell ⟨q.F i, 0 + k, none⟩ (.int .i64 2)) rfl rfl rfl (fun za zC zh zk => st_3 rfl (zh.ev rfl) (zh.ev rfl) hB3 (by omega) (fun v => zk v _ rfl)) ?_
    rintro v5 w6 hw7
    obtain ⟨hst8, hc9, hm10⟩ := RefSt.put (E' := (fun a b => E a b ∨ (a = i ∧ b = k))) hst hi hk (fun a b h => .inl (fun e => h (.inl e))) (fun a b h => h) (fun _ => rfl) (fun h => absurd (.inr ⟨rfl, rfl⟩) h) hw7
    have hl11 := hst.blk.lt
    have hb12 := chg_below hst.below hc9 (fun b hb => (by (try dsimp only at *); omega))
    have hB13 := chg_blk hst.blk hc9 (by (try dsimp only at *); omega)
    obtain ⟨hl14, hl15, hl16, hl17⟩ := hst8.glt
    refine WL.nil (WE.sub (K' := [(0, .pointer (some ⟨q.gw, 0, none⟩)), (1, .int .i64 (((i : Nat) : Int))), (2, .int .i64 (((k : Nat) : Int))), (6, .bool false), (17, .bool (((m0 : Int) == (0 : Int))))]) ⟨rfl, rfl, rfl, rfl, rfl, trivial⟩ ?_)
    refine WE.next ?_
    refine WC.seq ?_
    refine WC.region ?_
    refine WL.val (.pointer (some ⟨q.gw, 0, none⟩)) rfl rfl rfl (fun za zC zh zk => wp_move rfl (zh.ev rfl) zk) ?_
    refine WL.val (.int .i64 (((i : Nat) : Int))) rfl rfl rfl (fun za zC zh zk => wp_move rfl (zh.ev rfl) zk) ?_
    refine WL.val (.int .i64 (((k : Nat) : Int))) rfl rfl rfl (fun za zC zh zk => wp_move rfl (zh.ev rfl) zk) ?_
    refine WL.call rfl rfl rfl (fun za zh zC => wp_call (by kernel_rfl) rfl (hv3 (zh.ev rfl) (zh.ev rfl) (zh.ev rfl))) (rask_any o L1 L2 q w0 wa n hH hA i k (fun a b => E a b ∨ (a = i ∧ b = k)) _ hi hk hz (fun a b h => by rcases h with h | ⟨rfl, rfl⟩; exact Nat.le_of_lt (hE a b h); exact Nat.le_refl _) hst8) ?_
    rintro _ w20 ⟨rfl, hst18, hc19⟩
    have hl21 := hB13.lt
    have hb22 := chg_below hb12 hc19 (fun b hb => (by (try dsimp only at *); omega))
    have hB23 := chg_blk hB13 hc19 (by (try dsimp only at *); omega)
    obtain ⟨hl24, hl25, hl26, hl27⟩ := hst18.glt
    obtain ⟨m28, hm29, he30, _⟩ := RefSt.get hst18 hi hk
    obtain rfl := he30 (.inr ⟨rfl, rfl⟩)
    refine WL.nil (WE.sub (K' := [(0, .pointer (some ⟨q.gw, 0, none⟩)), (1, .int .i64 (((i : Nat) : Int))), (2, .int .i64 (((k : Nat) : Int))), (6, .bool false), (17, .bool (((m0 : Int) == (0 : Int)))), (30, .bool ((o.lg (ndget L1 i).t (ndget L2 k).t)))]) ⟨rfl, rfl, rfl, rfl, rfl, rfl, trivial⟩ ?_)
    refine WE.next ?_
    refine WC.cond rfl (fun h31 => ?_) (fun h31 => ?_)
    · skip
      have hask : o.lg (ndget L1 i).t (ndget L2 k).t = true := by have z := h31; simpa using z
      refine WC.region ?_
      refine WL.val (.pointer (some ⟨q.gw, 0, none⟩)) rfl rfl rfl (fun za zC zh zk => wp_move rfl (zh.ev rfl) zk) ?_
      refine WL.val (.pointer (some ⟨q.gw, 0, none⟩)) rfl rfl rfl (fun za zC zh zk => nilCheck_ rfl (zh.ev rfl) zk) ?_
      refine WL.val (.pointer (some ⟨q.gw, 6, none⟩)) rfl rfl rfl (fun za zC zh zk => fld_67_3 rfl (zh.ev rfl) zk) ?_
      refine WL.val (.slice ((some ⟨q.fb, 0, none⟩)) L1.length q.fc) rfl rfl rfl (fun za zC zh zk => ld_65 rfl (zh.ev rfl) ((hB23.cell 6).trans rfl) zk) ?_
      refine WL.val (.int .i64 (((i : Nat) : Int))) rfl rfl rfl (fun za zC zh zk => wp_move rfl (zh.ev rfl) zk) ?_
      refine WL.val (.pointer (some ⟨q.fb, 0 + i, none⟩)) rfl rfl rfl (fun za zC zh zk => ix_65 (k := i) rfl (zh.ev rfl) rfl (zh.ev rfl) (by first | omega | (simp; omega)) zk) ?_
      refine WL.val (.slice ((some ⟨q.F i, 0, none⟩)) L2.length L2.length) rfl rfl rfl (fun za zC zh zk => ld_22 rfl (zh.ev rfl) (hst18.outer i (by first | omega | (simp; omega))) zk) ?_
      refine WL.val (.int .i64 (((k : Nat) : Int))) rfl rfl rfl (fun za zC zh zk => wp_move rfl (zh.ev rfl) zk) ?_
      refine WL.val (.pointer (some ⟨(q.F i), 0 + k, none⟩)) rfl rfl rfl (fun za zC zh zk => ix_22 (k := k) rfl (zh.ev rfl) rfl (zh.ev rfl) (by first | omega | (simp; omega)) zk) ?_
      obtain ⟨cur32, hB33, hcs34⟩ := RefSt.row hst18 hi
      refine WL.step (post := fun _ w' => w' = w20.setCell ⟨q.F i, 0 + k, none⟩ (.int .i64 1)) rfl rfl rfl (fun za zC zh zk => st_3 rfl (zh.ev rfl) (zh.ev rfl) hB33 (by omega) (fun v => zk v _ rfl)) ?_
      rintro v35 w36 hw37
      obtain ⟨hst38, hc39, hm40⟩ := RefSt.put (E' := E) hst18 hi hk (fun a b h => by
          by_cases e : a = i ∧ b = k
          · exact .inr e
          · exact .inl (fun z => z.elim h e)) (fun a b h => .inl (.inl h)) (fun h => absurd h hnE) (fun _ => .inr (by rw [hask]; rfl)) hw37
      have hl41 := hB23.lt
      have hb42 := chg_below hb22 hc39 (fun b hb => (by (try dsimp only at *); omega))
      have hB43 := chg_blk hB23 hc39 (by (try dsimp only at *); omega)
      obtain ⟨hl44, hl45, hl46, hl47⟩ := hst38.glt
      refine WL.nil (WE.sub (K' := [(0, .pointer (some ⟨q.gw, 0, none⟩)), (1, .int .i64 (((i : Nat) : Int))), (2, .int .i64 (((k : Nat) : Int))), (6, .bool false), (17, .bool (((m0 : Int) == (0 : Int)))), (30, .bool ((o.lg (ndget L1 i).t (ndget L2 k).t)))]) ⟨rfl, rfl, rfl, rfl, rfl, rfl, trivial⟩ ?_)
      refine WE.next ?_
      refine WC.seq ?_
      refine WC.region ?_
      refine WL.val (.pointer (some ⟨q.gw, 0, none⟩)) rfl rfl rfl (fun za zC zh zk => wp_move rfl (zh.ev rfl) zk) ?_
      refine WL.val (.pointer (some ⟨q.gw, 0, none⟩)) rfl rfl rfl (fun za zC zh zk => nilCheck_ rfl (zh.ev rfl) zk) ?_
      refine WL.val (.pointer (some ⟨q.gw, 6, none⟩)) rfl rfl rfl (fun za zC zh zk => fld_67_3 rfl (zh.ev rfl) zk) ?_
      refine WL.val (.slice ((some ⟨q.fb, 0, none⟩)) L1.length q.fc) rfl rfl rfl (fun za zC zh zk => ld_65 rfl (zh.ev rfl) ((hB43.cell 6).trans rfl) zk) ?_
      refine WL.val (.int .i64 (((i : Nat) : Int))) rfl rfl rfl (fun za zC zh zk => wp_move rfl (zh.ev rfl) zk) ?_
      refine WL.val (.pointer (some ⟨q.fb, 0 + i, none⟩)) rfl rfl rfl (fun za zC zh zk => ix_65 (k := i) rfl (zh.ev rfl) rfl (zh.ev rfl) (by first | omega | (simp; omega)) zk) ?_
      refine WL.val (.slice ((some ⟨q.F i, 0, none⟩)) L2.length L2.length) rfl rfl rfl (fun za zC zh zk => ld_22 rfl (zh.ev rfl) (hst38.outer i (by first | omega | (simp; omega))) zk) ?_
      refine WL.val (.int .i64 (((k : Nat) : Int))) rfl rfl rfl (fun za zC zh zk => wp_move rfl (zh.ev rfl) zk) ?_
      refine WL.val (.pointer (some ⟨(q.F i), 0 + k, none⟩)) rfl rfl rfl (fun za zC zh zk => ix_22 (k := k) rfl (zh.ev rfl) rfl (zh.ev rfl) (by first | omega | (simp; omega)) zk) ?_
      refine WL.val (.int .i64 1) rfl rfl rfl (fun za zC zh zk => ld_3 rfl (zh.ev rfl) hm40 zk) ?_
      refine WL.val (.bool (((1 : Int) == (1 : Int)))) rfl rfl rfl (fun za zC zh zk => eql_3 rfl (zh.ev rfl) (zh.ev rfl) zk) ?_
      refine WL.val (.bool (((1 : Int) == (1 : Int)))) rfl rfl rfl (fun za zC zh zk => wp_assign rfl (zh.ev rfl) zk) ?_
      refine WL.nil (WE.sub (K' := [(0, .pointer (some ⟨q.gw, 0, none⟩)), (1, .int .i64 (((i : Nat) : Int))), (2, .int .i64 (((k : Nat) : Int))), (6, .bool (((1 : Int) == (1 : Int)))), (17, .bool (((m0 : Int) == (0 : Int)))), (30, .bool ((o.lg (ndget L1 i).t (ndget L2 k).t)))]) ⟨rfl, rfl, rfl, rfl, rfl, rfl, trivial⟩ ?_)
      refine WE.next ?_
      refine WC.ret ?_
      refine WE.ret1 rfl rfl ?_
      have hs48 : Chg ((fun b => q.lo ≤ b ∧ b ≤ q.hi)) w w36 := (Chg.trans2 (Chg.trans2 (Chg.trans2 (Chg.refl ((fun b => q.lo ≤ b ∧ b ≤ q.hi)) _) hc9 (fun i h1 h2 => by (try dsimp only at *); omega)) hc19 (fun i h1 h2 => by (try dsimp only at *); omega)) hc39 (fun i h1 h2 => by (try dsimp only at *); omega))
      exact ⟨_, rfl, congrArg Value.bool (by rw [hask]; rfl), hst38, hs48⟩
    · skip
      have hask : o.lg (ndget L1 i).t (ndget L2 k).t = false := by have z := h31; simpa using z
      have hst49 := RefSt.settle hst18 hnE hask
      refine WC.skip ?_
      refine WE.next ?_
      refine WC.seq ?_
      refine WC.region ?_
      refine WL.val (.pointer (some ⟨q.gw, 0, none⟩)) rfl rfl rfl (fun za zC zh zk => wp_move rfl (zh.ev rfl) zk) ?_
      refine WL.val (.pointer (some ⟨q.gw, 0, none⟩)) rfl rfl rfl (fun za zC zh zk => nilCheck_ rfl (zh.ev rfl) zk) ?_
      refine WL.val (.pointer (some ⟨q.gw, 6, none⟩)) rfl rfl rfl (fun za zC zh zk => fld_67_3 rfl (zh.ev rfl) zk) ?_
      refine WL.val (.slice ((some ⟨q.fb, 0, none⟩)) L1.length q.fc) rfl rfl rfl (fun za zC zh zk => ld_65 rfl (zh.ev rfl) ((hB23.cell 6).trans rfl) zk) ?_
      refine WL.val (.int .i64 (((i : Nat) : Int))) rfl rfl rfl (fun za zC zh zk => wp_move rfl (zh.ev rfl) zk) ?_
      refine WL.val (.pointer (some ⟨q.fb, 0 + i, none⟩)) rfl rfl rfl (fun za zC zh zk => ix_65 (k := i) rfl (zh.ev rfl) rfl (zh.ev rfl) (by first | omega | (simp; omega)) zk) ?_
      refine WL.val (.slice ((some ⟨q.F i, 0, none⟩)) L2.length L2.length) rfl rfl rfl (fun za zC zh zk => ld_22 rfl (zh.ev rfl) (hst49.outer i (by first | omega | (simp; omega))) zk) ?_
      refine WL.val (.int .i64 (((k : Nat) : Int))) rfl rfl rfl (fun za zC zh zk => wp_move rfl (zh.ev rfl) zk) ?_
      refine WL.val (.pointer (some ⟨(q.F i), 0 + k, none⟩)) rfl rfl rfl (fun za zC zh zk => ix_22 (k := k) rfl (zh.ev rfl) rfl (zh.ev rfl) (by first | omega | (simp; omega)) zk) ?_
      refine WL.val (.int .i64 2) rfl rfl rfl (fun za zC zh zk => ld_3 rfl (zh.ev rfl) hm29 zk) ?_
      refine WL.val (.bool (((2 : Int) == (1 : Int)))) rfl rfl rfl (fun za zC zh zk => eql_3 rfl (zh.ev rfl) (zh.ev rfl) zk) ?_
      refine WL.val (.bool (((2 : Int) == (1 : Int)))) rfl rfl rfl (fun za zC zh zk => wp_assign rfl (zh.ev rfl) zk) ?_
      refine WL.nil (WE.sub (K' := [(0, .pointer (some ⟨q.gw, 0, none⟩)), (1, .int .i64 (((i : Nat) : Int))), (2, .int .i64 (((k : Nat) : Int))), (6, .bool (((2 : Int) == (1 : Int)))), (17, .bool (((m0 : Int) == (0 : Int)))), (30, .bool ((o.lg (ndget L1 i).t (ndget L2 k).t)))]) ⟨rfl, rfl, rfl, rfl, rfl, rfl, trivial⟩ ?_)
      refine WE.next ?_
      refine WC.ret ?_
      refine WE.ret1 rfl rfl ?_
      have hs50 : Chg ((fun b => q.lo ≤ b ∧ b ≤ q.hi)) w w20 := (Chg.trans2 (Chg.trans2 (Chg.refl ((fun b => q.lo ≤ b ∧ b ≤ q.hi)) _) hc9 (fun i h1 h2 => by (try dsimp only at *); omega)) hc19 (fun i h1 h2 => by (try dsimp only at *); omega))
      exact ⟨_, rfl, congrArg Value.bool (by rw [hask]; rfl), hst49, hs50⟩
  · have h1 : ¬ ((m0 : Int) = (0 : Int)) := by simpa using h1
    have hfb := found_b (hf0 hnE) (by simpa using h1)
    refine WC.skip ?_
    refine WE.next ?_
    refine WC.seq ?_
    refine WC.region ?_
    refine WL.val (.pointer (some ⟨q.gw, 0, none⟩)) rfl rfl rfl (fun za zC zh zk => wp_move rfl (zh.ev rfl) zk) ?_
    refine WL.val (.pointer (some ⟨q.gw, 0, none⟩)) rfl rfl rfl (fun za zC zh zk => nilCheck_ rfl (zh.ev rfl) zk) ?_
    refine WL.val (.pointer (some ⟨q.gw, 6, none⟩)) rfl rfl rfl (fun za zC zh zk => fld_67_3 rfl (zh.ev rfl) zk) ?_
    refine WL.val (.slice ((some ⟨q.fb, 0, none⟩)) L1.length q.fc) rfl rfl rfl (fun za zC zh zk => ld_65 rfl (zh.ev rfl) ((hst.blk.cell 6).trans rfl) zk) ?_
    refine WL.val (.int .i64 (((i : Nat) : Int))) rfl rfl rfl (fun za zC zh zk => wp_move rfl (zh.ev rfl) zk) ?_
    refine WL.val (.pointer (some ⟨q.fb, 0 + i, none⟩)) rfl rfl rfl (fun za zC zh zk => ix_65 (k := i) rfl (zh.ev rfl) rfl (zh.ev rfl) (by first | omega | (simp; omega)) zk) ?_
    refine WL.val (.slice ((some ⟨q.F i, 0, none⟩)) L2.length L2.length) rfl rfl rfl (fun za zC zh zk => ld_22 rfl (zh.ev rfl) (hst.outer i (by first | omega | (simp; omega))) zk) ?_
    refine WL.val (.int .i64 (((k : Nat) : Int))) rfl rfl rfl (fun za zC zh zk => wp_move rfl (zh.ev rfl) zk) ?_
    refine WL.val (.pointer (some ⟨(q.F i), 0 + k, none⟩)) rfl rfl rfl (fun za zC zh zk => ix_22 (k := k) rfl (zh.ev rfl) rfl (zh.ev rfl) (by first | omega | (simp; omega)) zk) ?_
    refine WL.val (.int .i64 m0) rfl rfl rfl (fun za zC zh zk => ld_3 rfl (zh.ev rfl) hm0 zk) ?_
    refine WL.val (.bool (((m0 : Int) == (1 : Int)))) rfl rfl rfl (fun za zC zh zk => eql_3 rfl (zh.ev rfl) (zh.ev rfl) zk) ?_
    refine WL.val (.bool (((m0 : Int) == (1 : Int)))) rfl rfl rfl (fun za zC zh zk => wp_assign rfl (zh.ev rfl) zk) ?_
    refine WL.nil (WE.sub (K' := [(0, .pointer (some ⟨q.gw, 0, none⟩)), (1, .int .i64 (((i : Nat) : Int))), (2, .int .i64 (((k : Nat) : Int))), (6, .bool (((m0 : Int) == (1 : Int)))), (17, .bool (((m0 : Int) == (0 : Int))))]) ⟨rfl, rfl, rfl, rfl, rfl, trivial⟩ ?_)
    refine WE.next ?_
    refine WC.ret ?_
    refine WE.ret1 rfl rfl ?_
    have hs51 : Chg ((fun b => q.lo ≤ b ∧ b ≤ q.hi)) w w := (Chg.refl ((fun b => q.lo ≤ b ∧ b ≤ q.hi)) _)
    exact ⟨_, rfl, congrArg Value.bool (hfb), hst, hs51⟩

theorem rabove_any (o : Od) (L1 L2 : List Nd) (q : RefQ) (w0 wa : World) (hH : LpoH o L1 L2) : ∀ n, RAboveOK o L1 L2 q w0 wa n
  | 0 => fun i k E w hi hk hz _ _ => by have := T.size_eq (ndget L1 i).t; omega
  | n + 1 => rabove_step o L1 L2 q w0 wa n hH (rabove_any o L1 L2 q w0 wa hH n)

end Go.Proofs.Ytlkiabgpnboicaa
