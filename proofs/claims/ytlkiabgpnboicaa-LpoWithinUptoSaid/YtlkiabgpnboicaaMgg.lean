/- What the document says of f and g; terms that are too great; the walks. -/
import Derived.Test.YtlkiabgpnboicaaMgf

namespace Go.Proofs.Ytlkiabgpnboicaa
open Go.RowKit Go

set_option maxRecDepth 100000 in
theorem of_any (f : Int) (w : World) (a : Option Addr) (n c : Nat) : Calls Try.prog 22 #[.int .i64 f, .slice a n c] w (Ret fun v' w' => v' = .agg #[.int .i64 f, .slice a n c] ∧ Below w.heap.size w w') := by
  refine Calls.walk (l := [.int .i64 f, .slice a n c]) Try.func22 rfl (by kernel_rfl) ?_
  refine WC.sub (K' := [(0, .int .i64 f), (1, .slice a n c)]) ⟨rfl, rfl, trivial⟩ ?_
  refine WC.seq ?_
  refine WC.region ?_
  refine WL.step (post := NewBlk w 27 #[.int .i64 0, .slice none 0 0]) rfl rfl rfl (fun za zC zh zk => alloc_27 rfl (zk _ _ (newBlk _ _ _))) ?_
  rintro _ w1 ⟨g2, rfl, hg3, hB4, hb5, hz6⟩
  have hl7 : w.heap.size ≤ g2 := by omega
  refine WL.nil (WE.sub (K' := [(0, .int .i64 f), (1, .slice a n c), (4, .pointer (some ⟨g2, 0, none⟩))]) ⟨rfl, rfl, rfl, trivial⟩ ?_)
  refine WE.next ?_
  refine WC.seq ?_
  refine WC.region ?_
  refine WL.val (.int .i64 f) rfl rfl rfl (fun za zC zh zk => wp_move rfl (zh.ev rfl) zk) ?_
  refine WL.val (.slice a n c) rfl rfl rfl (fun za zC zh zk => wp_move rfl (zh.ev rfl) zk) ?_
  refine WL.val (.agg #[.int .i64 f, .slice a n c]) rfl rfl rfl (fun za zC zh zk => build_27_0_1 rfl (zh.ev rfl) (zh.ev rfl) zk) ?_
  refine WL.step (post := fun _ w' => Upd g2 w1 w' ∧ Blk w' g2 27 #[.int .i64 f, .slice a n c]) rfl rfl rfl (fun za zC zh zk => st_27 rfl (zh.ev rfl) (zh.ev rfl) rfl rfl hB4 (by first | decide | simp) (fun v => zk v _ ⟨(Upd.at_ _ _ _ _).trans (Upd.at_ _ _ _ _), (hB4.set_ 0 _).set_ 1 _⟩)) ?_
  rintro v11 w8 ⟨hu9, hB10⟩
  have hb12 := upd_below hb5 hu9 (by omega)
  refine WL.nil (WE.sub (K' := [(0, .int .i64 f), (1, .slice a n c), (4, .pointer (some ⟨g2, 0, none⟩))]) ⟨rfl, rfl, rfl, trivial⟩ ?_)
  refine WE.next ?_
  refine WC.ret ?_
  refine WE.retAny (v := .agg #[.int .i64 f, .slice a n c]) (fun za zh => ?_) ?_
  · have z0 : za.tmps[4]?.getD undef = .pointer (some ⟨g2, 0, none⟩) := by rw [← Array.getD_eq_getD_getElem?]; exact zh.knows 4 _ rfl
    have y0 : w8.cell? ⟨g2, 0, none⟩ = some (.int .i64 f) := ((hB10.cell 0).trans rfl)
    have y1 : w8.cell? ⟨g2, 1, none⟩ = some (.slice a n c) := ((hB10.cell 1).trans rfl)
    simp [results, Try.results22, z0, y0, y1, go_sem]
  · exact ⟨_, rfl, rfl, hb12⟩

set_option maxRecDepth 100000 in
theorem great_any (l : List T) (w : World) (a : Option Addr) (c : Nat) (hc : l.length ≤ c) (hm : c ≤ maxLen) (hl : IsTs w l a 0) : Calls Try.prog 8 #[.slice a l.length c] w (Ret fun v' w' => (∃ b, v' = .bool b) ∧ Below w.heap.size w w') := by
  unfold maxLen at hm
  refine Calls.walk (l := [.slice a l.length c]) Try.func8 rfl (by kernel_rfl) ?_
  refine WC.sub (K' := [(0, .slice a l.length c)]) ⟨rfl, trivial⟩ ?_
  refine WC.seq ?_
  refine WC.region ?_
  refine WL.val (.bool false) rfl rfl rfl (fun za zC zh zk => wp_assign rfl (zh.ev rfl) zk) ?_
  refine WL.nil (WE.sub (K' := [(0, .slice a l.length c), (2, .bool false)]) ⟨rfl, rfl, trivial⟩ ?_)
  refine WE.next ?_
  refine WC.seq ?_
  refine WC.region ?_
  refine WL.val (.int .i64 0) rfl rfl rfl (fun za zC zh zk => wp_assign rfl (zh.ev rfl) zk) ?_
  refine WL.nil (WE.sub (K' := [(0, .slice a l.length c), (2, .bool false), (3, .int .i64 0)]) ⟨rfl, rfl, rfl, trivial⟩ ?_)
  refine WE.next ?_
  refine WC.seq ?_
  refine WC.seq ?_
  refine WC.region ?_
  refine WL.val (.int .i64 0) rfl rfl rfl (fun za zC zh zk => wp_assign rfl (zh.ev rfl) zk) ?_
  refine WL.nil (WE.sub (K' := [(0, .slice a l.length c), (2, .bool false), (3, .int .i64 0), (4, .int .i64 0)]) ⟨rfl, rfl, rfl, rfl, trivial⟩ ?_)
  refine WE.next ?_
  refine WC.block ?_
  refine WC.loop (X := Nat × Int) (fun x => l.length - x.1) (fun x => [(0, .slice a l.length c), (3, .int .i64 x.2), (4, .int .i64 (((x.1 : Nat) : Int)))]) (fun x w1 => x.1 ≤ l.length ∧ Below w.heap.size w w1) ((0, 0)) ⟨rfl, rfl, rfl, trivial⟩ ?_ ?_
  · exact ⟨Nat.zero_le _, (Below.refl _ _)⟩
  · rintro x w1 ⟨hk, hb2⟩
    refine WC.seq ?_
    refine WC.seq ?_
    refine WC.region ?_
    refine WL.val (.int .i64 (((x.1 : Nat) : Int))) rfl rfl rfl (fun za zC zh zk => wp_move rfl (zh.ev rfl) zk) ?_
    refine WL.val (.slice a l.length c) rfl rfl rfl (fun za zC zh zk => wp_move rfl (zh.ev rfl) zk) ?_
    refine WL.val (.int .i64 (((l.length : Nat) : Int))) rfl rfl rfl (fun za zC zh zk => len_25 rfl (zh.ev rfl) zk) ?_
    refine WL.val (.bool ((decide ((((x.1 : Nat) : Int) : Int) < (((l.length : Nat) : Int) : Int))))) rfl rfl rfl (fun za zC zh zk => lss_3 rfl (zh.ev rfl) (zh.ev rfl) zk) ?_
    refine WL.nil (WE.sub (K' := [(0, .slice a l.length c), (3, .int .i64 x.2), (4, .int .i64 (((x.1 : Nat) : Int))), (8, .bool ((decide ((((x.1 : Nat) : Int) : Int) < (((l.length : Nat) : Int) : Int)))))]) ⟨rfl, rfl, rfl, rfl, trivial⟩ ?_)
    refine WE.next ?_
    refine WC.cond rfl (fun h3 => ?_) (fun h3 => ?_)
    · have h3 : (((x.1 : Nat) : Int) : Int) < (((l.length : Nat) : Int) : Int) := by simpa using h3
      refine WC.skip ?_
      refine WE.next ?_
      refine WC.seq ?_
      refine WC.block ?_
      refine WC.seq ?_
      refine WC.region ?_
      refine WL.val (.int .i64 x.2) rfl rfl rfl (fun za zC zh zk => wp_move rfl (zh.ev rfl) zk) ?_
      refine WL.val (.slice a l.length c) rfl rfl rfl (fun za zC zh zk => wp_move rfl (zh.ev rfl) zk) ?_
      refine WL.val (.int .i64 (((x.1 : Nat) : Int))) rfl rfl rfl (fun za zC zh zk => wp_move rfl (zh.ev rfl) zk) ?_
      obtain ⟨b4, o5, A6, C7, ha8, hc9⟩ := IsTs.open hl
      refine WL.val (.pointer (some ⟨b4, o5 + x.1 * 2, none⟩)) rfl rfl rfl (fun za zC zh zk => ix_25 (k := x.1) rfl (zh.ev rfl) (ha8 x.1 (by first | omega | (simp; omega))) (zh.ev rfl) (by first | omega | (simp; omega)) zk) ?_
      refine WL.val (.agg #[.int .i64 ((tget l x.1).f), .slice ((A6 x.1)) ((tget l x.1).args.length) ((C7 x.1))]) rfl rfl rfl (fun za zC zh zk => ld_27 rfl (zh.ev rfl) (bkeeps hb2 _ _ (hc9 x.1 (by first | omega | (simp; omega))).1) (bkeeps hb2 _ _ (hc9 x.1 (by first | omega | (simp; omega))).2.1) zk) ?_
      refine WL.call rfl rfl rfl (fun za zh zC => wp_call (by kernel_rfl) rfl (hv1 (zh.ev rfl))) (ret_of (size_any (tget l x.1) _ _ (IsT.below hb2 (hc9 x.1 (by first | omega | (simp; omega))).2.2))) ?_
      rintro _ w10 ⟨rfl, hbz⟩
      refine WL.val (.int .i64 ((IntKind.i64.wrap (x.2 + (wrap64 ((tget l x.1).size : Int)))))) rfl rfl rfl (fun za zC zh zk => add_3 rfl (zh.ev rfl) (zh.ev rfl) zk) ?_
      refine WL.val (.int .i64 ((IntKind.i64.wrap (x.2 + (wrap64 ((tget l x.1).size : Int)))))) rfl rfl rfl (fun za zC zh zk => wp_assign rfl (zh.ev rfl) zk) ?_
      refine WL.nil (WE.sub (K' := [(0, .slice a l.length c), (3, .int .i64 ((IntKind.i64.wrap (x.2 + (wrap64 ((tget l x.1).size : Int)))))), (4, .int .i64 (((x.1 : Nat) : Int))), (8, .bool ((decide ((((x.1 : Nat) : Int) : Int) < (((l.length : Nat) : Int) : Int)))))]) ⟨rfl, rfl, rfl, rfl, trivial⟩ ?_)
      refine WE.next ?_
      refine WC.seq ?_
      refine WC.region ?_
      refine WL.val (.int .i64 ((IntKind.i64.wrap (x.2 + (wrap64 ((tget l x.1).size : Int)))))) rfl rfl rfl (fun za zC zh zk => wp_move rfl (zh.ev rfl) zk) ?_
      refine WL.val (.bool ((decide ((2000 : Int) < ((IntKind.i64.wrap (x.2 + (wrap64 ((tget l x.1).size : Int)))) : Int))))) rfl rfl rfl (fun za zC zh zk => gtr_3 rfl (zh.ev rfl) (zh.ev rfl) zk) ?_
      refine WL.nil (WE.sub (K' := [(0, .slice a l.length c), (3, .int .i64 ((IntKind.i64.wrap (x.2 + (wrap64 ((tget l x.1).size : Int)))))), (4, .int .i64 (((x.1 : Nat) : Int))), (8, .bool ((decide ((((x.1 : Nat) : Int) : Int) < (((l.length : Nat) : Int) : Int))))), (19, .bool ((decide ((2000 : Int) < ((IntKind.i64.wrap (x.2 + (wrap64 ((tget l x.1).size : Int)))) : Int)))))]) ⟨rfl, rfl, rfl, rfl, rfl, trivial⟩ ?_)
      refine WE.next ?_
      refine WC.cond rfl (fun h11 => ?_) (fun h11 => ?_)
      · have h11 : (2000 : Int) < ((IntKind.i64.wrap (x.2 + (wrap64 ((tget l x.1).size : Int)))) : Int) := by simpa using h11
        refine WC.seq ?_
        refine WC.region ?_
        refine WL.val (.bool true) rfl rfl rfl (fun za zC zh zk => wp_assign rfl (zh.ev rfl) zk) ?_
        refine WL.nil (WE.sub (K' := [(0, .slice a l.length c), (2, .bool true), (3, .int .i64 ((IntKind.i64.wrap (x.2 + (wrap64 ((tget l x.1).size : Int)))))), (4, .int .i64 (((x.1 : Nat) : Int))), (8, .bool ((decide ((((x.1 : Nat) : Int) : Int) < (((l.length : Nat) : Int) : Int))))), (19, .bool ((decide ((2000 : Int) < ((IntKind.i64.wrap (x.2 + (wrap64 ((tget l x.1).size : Int)))) : Int)))))]) ⟨rfl, rfl, rfl, rfl, rfl, rfl, trivial⟩ ?_)
        refine WE.next ?_
        refine WC.ret ?_
        refine WE.blockRet ?_
        refine WE.thenRet ?_
        refine WE.thenRet ?_
        refine WE.blockRet ?_
        refine WE.thenRet ?_
        refine WE.ret1 rfl rfl ?_
        have hb12 : Below w.heap.size w w10 := (bstep hb2 hbz)
        exact ⟨_, rfl, ⟨_, rfl⟩, hb12⟩
      · have h11 : ¬ ((2000 : Int) < ((IntKind.i64.wrap (x.2 + (wrap64 ((tget l x.1).size : Int)))) : Int)) := by simpa using h11
        refine WC.skip ?_
        refine WE.blockNormal ?_
        refine WE.next ?_
        refine WC.region ?_
        refine WL.val (.int .i64 (((x.1 : Nat) : Int))) rfl rfl rfl (fun za zC zh zk => wp_move rfl (zh.ev rfl) zk) ?_
        refine WL.val (.int .i64 ((((x.1 + 1) : Nat) : Int))) rfl rfl rfl (fun za zC zh zk => addb_3 rfl (zh.ev rfl) (zh.ev rfl) (wrap_eq (by omega) (by omega) (by omega)) zk) ?_
        refine WL.val (.int .i64 ((((x.1 + 1) : Nat) : Int))) rfl rfl rfl (fun za zC zh zk => wp_assign rfl (zh.ev rfl) zk) ?_
        refine WL.nil (WE.sub (K' := [(0, .slice a l.length c), (3, .int .i64 ((IntKind.i64.wrap (x.2 + (wrap64 ((tget l x.1).size : Int)))))), (4, .int .i64 ((((x.1 + 1) : Nat) : Int))), (8, .bool ((decide ((((x.1 : Nat) : Int) : Int) < (((l.length : Nat) : Int) : Int))))), (19, .bool ((decide ((2000 : Int) < ((IntKind.i64.wrap (x.2 + (wrap64 ((tget l x.1).size : Int)))) : Int)))))]) ⟨rfl, rfl, rfl, rfl, rfl, trivial⟩ ?_)
        refine WE.round ((x.1 + 1, (IntKind.i64.wrap (x.2 + (wrap64 ((tget l x.1).size : Int)))))) ⟨rfl, rfl, rfl, trivial⟩ ?_ ?_
        · have hb13 : Below w.heap.size w w10 := (bstep hb2 hbz)
          exact ⟨by dsimp only; omega, hb13⟩
        · dsimp only; omega
    · have h3 : ¬ ((((x.1 : Nat) : Int) : Int) < (((l.length : Nat) : Int) : Int)) := by simpa using h3
      refine WC.exit ?_
      refine WE.thenExit ?_
      refine WE.thenExit ?_
      refine WE.blockIs rfl ?_
      refine WE.next ?_
      refine WC.seq ?_
      refine WC.region ?_
      refine WL.val (.bool false) rfl rfl rfl (fun za zC zh zk => wp_assign rfl (zh.ev rfl) zk) ?_
      refine WL.nil (WE.sub (K' := [(0, .slice a l.length c), (2, .bool false), (3, .int .i64 x.2), (4, .int .i64 (((x.1 : Nat) : Int))), (8, .bool ((decide ((((x.1 : Nat) : Int) : Int) < (((l.length : Nat) : Int) : Int)))))]) ⟨rfl, rfl, rfl, rfl, rfl, trivial⟩ ?_)
      refine WE.next ?_
      refine WC.ret ?_
      refine WE.ret1 rfl rfl ?_
      exact ⟨_, rfl, ⟨_, rfl⟩, hb2⟩

def upTo (n : Nat) : List Int := (List.range n).map Int.ofNat
theorem upTo_succ (n : Nat) : upTo (n + 1) = upTo n ++ [(n : Int)] := by simp [upTo, List.range_succ]
theorem upTo_len (n : Nat) : (upTo n).length = n := by simp [upTo]
def leastO (n : Nat) : Od := ⟨true, upTo n, [], 0⟩
theorem ints_own {w : World} {S : Nat → Prop} {ra : Option Addr} {rc n : Nat} {L : List Int} (h : Own w S 3 1 ra rc n (L.map (Value.int .i64))) (hL : ∀ x ∈ L, I64 x) : L.length = n ∧ n ≤ rc ∧ rc ≤ maxLen ∧ IsInts w L ra := by
  have hl : L.length = n := by have := h.1.1; simpa using this
  rcases h.1.2 with ⟨e, h0⟩ | ⟨g, cap, cur, e, _, hb, hc, hm, hs, hx⟩
  · simp only [Value.slice.injEq] at e
    obtain ⟨rfl, rfl, rfl⟩ := e
    obtain rfl : L = [] := List.length_eq_zero_iff.1 hl
    exact ⟨rfl, Nat.le_refl _, Nat.zero_le _, fun k hk => by simp at hk⟩
  · simp only [Value.slice.injEq, true_and] at e
    obtain ⟨rfl, rfl⟩ := e
    refine ⟨hl, hc, hm, fun k hk => ⟨g, 0, [.int .i64 L[k]], rfl, rfl, fun j hj => ?_, rfl, hL _ (List.getElem_mem hk)⟩⟩
    obtain rfl : j = 0 := by omega
    have := own_cell h (i := k) (v := .int .i64 L[k]) (by simp [hk])
    simpa using this
theorem upTo_i64 {n : Nat} (h : n ≤ 1000000) : ∀ x ∈ upTo n, I64 x := by
  intro x hx
  simp only [upTo, List.mem_map, List.mem_range] at hx
  obtain ⟨k, hk, rfl⟩ := hx
  unfold I64
  simp only [Int.ofNat_eq_natCast]
  omega
set_option maxRecDepth 100000 in
theorem least_any (n : Nat) (hn : n ≤ 1000000) (w : World) : Calls Try.prog 21 #[.int .i64 (n : Int)] w (Ret fun v' w' => (∃ p c, v' = .agg #[.bool true, .slice p n c, .slice none 0 0, .int .i64 0]) ∧ IsOd w' (leastO n) v' ∧ Below w.heap.size w w') := by
  refine Calls.walk (l := [.int .i64 (((n : Nat) : Int))]) Try.func21 rfl (by kernel_rfl) ?_
  refine WC.sub (K' := [(0, .int .i64 (((n : Nat) : Int)))]) ⟨rfl, trivial⟩ ?_
  refine WC.seq ?_
  refine WC.region ?_
  refine WL.step (post := NewBlk w 24 #[.bool false, .slice none 0 0, .slice none 0 0, .int .i64 0]) rfl rfl rfl (fun za zC zh zk => alloc_24 rfl (zk _ _ (newBlk _ _ _))) ?_
  rintro _ w1 ⟨g2, rfl, hg3, hB4, hb5, hz6⟩
  have hl7 : w.heap.size ≤ g2 := by omega
  refine WL.nil (WE.sub (K' := [(0, .int .i64 (((n : Nat) : Int))), (2, .pointer (some ⟨g2, 0, none⟩))]) ⟨rfl, rfl, trivial⟩ ?_)
  refine WE.next ?_
  refine WC.seq ?_
  refine WC.region ?_
  refine WL.val (.agg #[.bool true, .slice none 0 0, .slice none 0 0, .int .i64 0]) rfl rfl rfl (fun za zC zh zk => build_24_0 rfl (zh.ev rfl) zk) ?_
  refine WL.step (post := NewBlk w1 24 #[.bool false, .slice none 0 0, .slice none 0 0, .int .i64 0]) rfl rfl rfl (fun za zC zh zk => alloc_24 rfl (zk _ _ (newBlk _ _ _))) ?_
  rintro _ w8 ⟨g9, rfl, hg10, hB11, hb12, hz13⟩
  have hl14 : g2 < g9 := by have z1 := hB4.lt; omega
  have hl15 : w.heap.size ≤ g9 := by have z2 := (hb5).size; omega
  refine WL.step (post := fun _ w' => Upd g9 w8 w' ∧ Blk w' g9 24 #[.bool true, .slice none 0 0, .slice none 0 0, .int .i64 0]) rfl rfl rfl (fun za zC zh zk => st_24 rfl (zh.ev rfl) (zh.ev rfl) rfl rfl rfl rfl hB11 (by first | decide | simp) (fun v => zk v _ ⟨(((Upd.at_ _ _ _ _).trans (Upd.at_ _ _ _ _)).trans (Upd.at_ _ _ _ _)).trans (Upd.at_ _ _ _ _), (((hB11.set_ 0 _).set_ 1 _).set_ 2 _).set_ 3 _⟩)) ?_
  rintro v19 w16 ⟨hu17, hB18⟩
  have hb20 : Below w.heap.size w w8 := (bstep hb5 hb12)
  have hb21 := upd_below hb20 hu17 (by omega)
  have hB22 := hB4.below hb12
  have hB23 := upd_blk hB22 hu17 (by omega)
  refine WL.nil (WE.sub (K' := [(0, .int .i64 (((n : Nat) : Int))), (2, .pointer (some ⟨g2, 0, none⟩)), (3, .pointer (some ⟨g9, 0, none⟩))]) ⟨rfl, rfl, rfl, trivial⟩ ?_)
  refine WE.next ?_
  refine WC.seq ?_
  refine WC.seq ?_
  refine WC.region ?_
  refine WL.val (.int .i64 0) rfl rfl rfl (fun za zC zh zk => wp_assign rfl (zh.ev rfl) zk) ?_
  refine WL.nil (WE.sub (K' := [(0, .int .i64 (((n : Nat) : Int))), (2, .pointer (some ⟨g2, 0, none⟩)), (3, .pointer (some ⟨g9, 0, none⟩)), (4, .int .i64 0)]) ⟨rfl, rfl, rfl, rfl, trivial⟩ ?_)
  refine WE.next ?_
  refine WC.block ?_
  have hl24 : g2 < w16.heap.size := by have z1 := hB23.lt; omega
  have hl25 : g9 < w16.heap.size := by have z1 := hB18.lt; omega
  have hl26 : w.heap.size ≤ w16.heap.size := (hb21).size
  refine WC.loop (X := Option Addr × Nat × Nat) (fun x => n - x.2.2) (fun x => [(0, .int .i64 (((n : Nat) : Int))), (2, .pointer (some ⟨g2, 0, none⟩)), (3, .pointer (some ⟨g9, 0, none⟩)), (4, .int .i64 (((x.2.2 : Nat) : Int)))]) (fun x w27 => x.2.2 ≤ n ∧ Below w.heap.size w w27 ∧ Blk w27 g2 24 #[.bool false, .slice none 0 0, .slice none 0 0, .int .i64 0] ∧ Blk w27 g9 24 #[.bool true, .slice x.1 x.2.2 x.2.1, .slice none 0 0, .int .i64 0] ∧ w16.heap.size ≤ (w27).heap.size ∧ Own w27 (fun b => w16.heap.size ≤ b ∧ b ≠ g9) 3 1 x.1 x.2.1 x.2.2 (((upTo x.2.2).map (Value.int .i64)))) ((none, 0, 0)) ⟨rfl, rfl, rfl, rfl, trivial⟩ ?_ ?_
  · exact ⟨Nat.zero_le _, hb21, hB23, hB18, (by omega), (by simpa [upTo] using own_nil)⟩
  · rintro x w27 ⟨hk, hb28, hB29, hB30, hf32, hr31⟩
    refine WC.seq ?_
    refine WC.seq ?_
    refine WC.region ?_
    refine WL.val (.int .i64 (((x.2.2 : Nat) : Int))) rfl rfl rfl (fun za zC zh zk => wp_move rfl (zh.ev rfl) zk) ?_
    refine WL.val (.int .i64 (((n : Nat) : Int))) rfl rfl rfl (fun za zC zh zk => wp_move rfl (zh.ev rfl) zk) ?_
    refine WL.val (.bool ((decide ((((x.2.2 : Nat) : Int) : Int) < (((n : Nat) : Int) : Int))))) rfl rfl rfl (fun za zC zh zk => lss_3 rfl (zh.ev rfl) (zh.ev rfl) zk) ?_
    refine WL.nil (WE.sub (K' := [(0, .int .i64 (((n : Nat) : Int))), (2, .pointer (some ⟨g2, 0, none⟩)), (3, .pointer (some ⟨g9, 0, none⟩)), (4, .int .i64 (((x.2.2 : Nat) : Int))), (8, .bool ((decide ((((x.2.2 : Nat) : Int) : Int) < (((n : Nat) : Int) : Int)))))]) ⟨rfl, rfl, rfl, rfl, rfl, trivial⟩ ?_)
    refine WE.next ?_
    refine WC.cond rfl (fun h33 => ?_) (fun h33 => ?_)
    · have h33 : (((x.2.2 : Nat) : Int) : Int) < (((n : Nat) : Int) : Int) := by simpa using h33
      refine WC.skip ?_
      refine WE.next ?_
      refine WC.seq ?_
      refine WC.block ?_
      refine WC.region ?_
      refine WL.val (.pointer (some ⟨g9, 1, none⟩)) rfl rfl rfl (fun za zC zh zk => fld_24_1 rfl (zh.ev rfl) zk) ?_
      refine WL.val (.slice x.1 x.2.2 x.2.1) rfl rfl rfl (fun za zC zh zk => ld_22 rfl (zh.ev rfl) ((hB30.cell 1).trans rfl) zk) ?_
      refine WL.val (.int .i64 (((x.2.2 : Nat) : Int))) rfl rfl rfl (fun za zC zh zk => wp_move rfl (zh.ev rfl) zk) ?_
      refine WL.step (post := NewRow w27 3 #[.int .i64 (((x.2.2 : Nat) : Int))] 1) rfl rfl rfl (fun za zC zh zk => row_22_1 rfl (zh.ev rfl) (zk _ _ (newRow _ _ _ _))) ?_
      rintro _ w34 ⟨g35, rfl, hg36, hB37, hb38, hz39⟩
      have hl40 : g2 < g35 := by have z1 := hB29.lt; omega
      have hl41 : g9 < g35 := by have z1 := hB30.lt; omega
      have hr42 := Own.mono (S' := (fun b => w16.heap.size ≤ b ∧ b ≠ g9 ∧ b ≠ g35)) hr31 (fun b h1 h2 => by (try dsimp only at *); omega)
      have hl43 : w.heap.size ≤ g35 := by have z2 := (hb28).size; omega
      have hr44 := hr42.below hb38
      have hB50 := hB30.below hb38
      refine WL.step (post := fun v w' => ∃ ra rc, v = .slice ra (x.2.2 + 1) rc ∧ Own w' (fun b => w16.heap.size ≤ b ∧ b ≠ g9 ∧ b ≠ g35) 3 1 ra rc (x.2.2 + 1) (((upTo x.2.2).map (Value.int .i64)) ++ [.int .i64 (((x.2.2 : Nat) : Int))]) ∧ Chg (fun b => w16.heap.size ≤ b ∧ b ≠ g9 ∧ b ≠ g35) w34 w') rfl rfl rfl (fun za zC zh zk => app_22 (S := (fun b => w16.heap.size ≤ b ∧ b ≠ g9 ∧ b ≠ g35)) (xs := ((upTo x.2.2).map (Value.int .i64))) (news := [.int .i64 (((x.2.2 : Nat) : Int))]) rfl (zh.ev rfl) (zh.ev rfl) hr44 (SrcIs.ofBlk hB37) (by simp) (by simp [Value.oneCell']) (by omega) (by omega) (by have z1 := hb38.size; have z2 := hf32; have y0 := hB50.lt; have y1 := hB37.lt; (try dsimp only at *); omega) (fun ra rc w' h1 h2 => zk _ _ ⟨ra, rc, rfl, h1, h2⟩)) ?_
      rintro _ w45 ⟨ra46, rc47, rfl, hr48, hc49⟩
      have hb51 : Below w.heap.size w w34 := (bstep hb28 hb38)
      have hB52 := hB29.below hb38
      have hb53 := chg_below hb51 hc49 (fun b hb => (by (try dsimp only at *); omega))
      have hB54 := chg_blk hB52 hc49 (by (try dsimp only at *); omega)
      have hB55 := chg_blk hB50 hc49 (by (try dsimp only at *); omega)
      have hB56 := chg_blk hB37 hc49 (by (try dsimp only at *); omega)
      refine WL.val (.pointer (some ⟨g9, 1, none⟩)) rfl rfl rfl (fun za zC zh zk => fld_24_1 rfl (zh.ev rfl) zk) ?_
      refine WL.step (post := fun _ w' => Upd g9 w45 w' ∧ Blk w' g9 24 #[.bool true, .slice ra46 ((x.2.2 + 1)) rc47, .slice none 0 0, .int .i64 0]) rfl rfl rfl (fun za zC zh zk => st_22 rfl (zh.ev rfl) (zh.ev rfl) hB55 (by first | decide | simp) (fun v => zk v _ ⟨Upd.at_ _ _ _ _, hB55.set_ 1 _⟩)) ?_
      rintro v60 w57 ⟨hu58, hB59⟩
      have hb61 := upd_below hb53 hu58 (by omega)
      have hB62 := upd_blk hB54 hu58 (by omega)
      have hB63 := upd_blk hB56 hu58 (by omega)
      have hr64 := hr48.upd hu58 (by (try dsimp only at *); omega)
      refine WL.nil (WE.sub (K' := [(0, .int .i64 (((n : Nat) : Int))), (2, .pointer (some ⟨g2, 0, none⟩)), (3, .pointer (some ⟨g9, 0, none⟩)), (4, .int .i64 (((x.2.2 : Nat) : Int))), (8, .bool ((decide ((((x.2.2 : Nat) : Int) : Int) < (((n : Nat) : Int) : Int)))))]) ⟨rfl, rfl, rfl, rfl, rfl, trivial⟩ ?_)
      refine WE.blockNormal ?_
      refine WE.next ?_
      refine WC.region ?_
      refine WL.val (.int .i64 (((x.2.2 : Nat) : Int))) rfl rfl rfl (fun za zC zh zk => wp_move rfl (zh.ev rfl) zk) ?_
      refine WL.val (.int .i64 ((((x.2.2 + 1) : Nat) : Int))) rfl rfl rfl (fun za zC zh zk => addb_3 rfl (zh.ev rfl) (zh.ev rfl) (wrap_eq (by omega) (by omega) (by omega)) zk) ?_
      refine WL.val (.int .i64 ((((x.2.2 + 1) : Nat) : Int))) rfl rfl rfl (fun za zC zh zk => wp_assign rfl (zh.ev rfl) zk) ?_
      refine WL.nil (WE.sub (K' := [(0, .int .i64 (((n : Nat) : Int))), (2, .pointer (some ⟨g2, 0, none⟩)), (3, .pointer (some ⟨g9, 0, none⟩)), (4, .int .i64 ((((x.2.2 + 1) : Nat) : Int))), (8, .bool ((decide ((((x.2.2 : Nat) : Int) : Int) < (((n : Nat) : Int) : Int)))))]) ⟨rfl, rfl, rfl, rfl, rfl, trivial⟩ ?_)
      refine WE.round ((ra46, rc47, x.2.2 + 1)) ⟨rfl, rfl, rfl, rfl, trivial⟩ ?_ ?_
      · have hr65 := Own.mono (S' := (fun b => w16.heap.size ≤ b ∧ b ≠ g9)) hr64 (fun b h1 h2 => by (try dsimp only at *); omega)
        exact ⟨by dsimp only; omega, hb61, hB62, hB59, (by have z1 := (Nat.le_trans (Nat.le_trans hb38.size hc49.size) (Nat.le_of_eq hu58.size.symm)); have z2 := hf32; omega), (by dsimp only; rw [upTo_succ, List.map_append]; exact hr65)⟩
      · dsimp only; omega
    · have h33 : ¬ ((((x.2.2 : Nat) : Int) : Int) < (((n : Nat) : Int) : Int)) := by simpa using h33
      refine WC.exit ?_
      refine WE.thenExit ?_
      refine WE.thenExit ?_
      refine WE.blockIs rfl ?_
      refine WE.next ?_
      refine WC.seq ?_
      refine WC.region ?_
      refine WL.val (.agg #[.bool true, .slice x.1 x.2.2 x.2.1, .slice none 0 0, .int .i64 0]) rfl rfl rfl (fun za zC zh zk => ld_24 rfl (zh.ev rfl) ((hB30.cell 0).trans rfl) ((hB30.cell 1).trans rfl) ((hB30.cell 2).trans rfl) ((hB30.cell 3).trans rfl) zk) ?_
      refine WL.step (post := fun _ w' => Upd g2 w27 w' ∧ Blk w' g2 24 #[.bool true, .slice x.1 x.2.2 x.2.1, .slice none 0 0, .int .i64 0]) rfl rfl rfl (fun za zC zh zk => st_24 rfl (zh.ev rfl) (zh.ev rfl) rfl rfl rfl rfl hB29 (by first | decide | simp) (fun v => zk v _ ⟨(((Upd.at_ _ _ _ _).trans (Upd.at_ _ _ _ _)).trans (Upd.at_ _ _ _ _)).trans (Upd.at_ _ _ _ _), (((hB29.set_ 0 _).set_ 1 _).set_ 2 _).set_ 3 _⟩)) ?_
      rintro v69 w66 ⟨hu67, hB68⟩
      have hb70 := upd_below hb28 hu67 (by omega)
      have hB71 := upd_blk hB30 hu67 (by omega)
      have hr72 := hr31.upd hu67 (by (try dsimp only at *); omega)
      refine WL.nil (WE.sub (K' := [(0, .int .i64 (((n : Nat) : Int))), (2, .pointer (some ⟨g2, 0, none⟩)), (3, .pointer (some ⟨g9, 0, none⟩)), (4, .int .i64 (((x.2.2 : Nat) : Int))), (8, .bool ((decide ((((x.2.2 : Nat) : Int) : Int) < (((n : Nat) : Int) : Int)))))]) ⟨rfl, rfl, rfl, rfl, rfl, trivial⟩ ?_)
      refine WE.next ?_
      refine WC.ret ?_
      refine WE.retAny (v := .agg #[.bool true, .slice x.1 x.2.2 x.2.1, .slice none 0 0, .int .i64 0]) (fun za zh => ?_) ?_
      · have z0 : za.tmps[2]?.getD undef = .pointer (some ⟨g2, 0, none⟩) := by rw [← Array.getD_eq_getD_getElem?]; exact zh.knows 2 _ rfl
        have y0 : w66.cell? ⟨g2, 0, none⟩ = some (.bool true) := ((hB68.cell 0).trans rfl)
        have y1 : w66.cell? ⟨g2, 1, none⟩ = some (.slice x.1 x.2.2 x.2.1) := ((hB68.cell 1).trans rfl)
        have y2 : w66.cell? ⟨g2, 2, none⟩ = some (.slice none 0 0) := ((hB68.cell 2).trans rfl)
        have y3 : w66.cell? ⟨g2, 3, none⟩ = some (.int .i64 0) := ((hB68.cell 3).trans rfl)
        simp [results, Try.results21, z0, y0, y1, y2, y3, go_sem]
      · have e : x.2.2 = n := by omega
        obtain ⟨q1, q2, q3, q4⟩ := ints_own hr72 (upTo_i64 (by omega))
        rw [e] at q2 q4
        rw [e]
        exact ⟨_, rfl, ⟨_, _, rfl⟩, ⟨_, _, _, _, by rw [show (leastO n).prec.length = n from upTo_len n]; rfl, by rw [show (leastO n).prec.length = n from upTo_len n]; exact q2, q3, Nat.le_refl _, Nat.zero_le _, q4, (fun k hk => by simp [leastO] at hk), by unfold I64; simp [leastO]⟩, hb70⟩

def TsOf (l : List T) (v : Value) (w : World) : Prop := ∃ a c, v = .slice a l.length c ∧ l.length ≤ c ∧ c ≤ maxLen ∧ IsTs w l a 0
theorem TsOf.bel {l : List T} {v : Value} {w w' : World} (h : TsOf l v w) (hb : Below w.heap.size w w') : TsOf l v w' := by
  obtain ⟨a, c, h1, h2, h3, h4⟩ := h
  exact ⟨a, c, h1, h2, h3, h4.below hb⟩
theorem isT0 {w : World} {f : Int} (h : I64 f) : IsT w (.mk f []) (.agg #[.int .i64 f, .slice none 0 0]) := ⟨h, none, 0, rfl, Nat.le_refl _, Nat.zero_le _, trivial⟩
theorem ts1 {w : World} {t : T} {u v : Value} {ty : Nat} (h : IsT w t (.agg #[u, v])) : TsOf [t] (.slice (some ⟨w.heap.size, 0, none⟩) 1 1) (w.alloc (.cells #[u, v] ty)) := by
  have hb := balloc w (.cells #[u, v] ty)
  exact ⟨_, _, rfl, Nat.le_refl _, by unfold maxLen; simp, ⟨_, 0, _, _, rfl, by simp, by simp, h.below hb⟩, trivial⟩
theorem ts2 {w : World} {t s : T} {u v x y : Value} {ty : Nat} (h : IsT w t (.agg #[u, v])) (h' : IsT w s (.agg #[x, y])) : TsOf [t, s] (.slice (some ⟨w.heap.size, 0, none⟩) 2 2) (w.alloc (.cells #[u, v, x, y] ty)) := by
  have hb := balloc w (.cells #[u, v, x, y] ty)
  exact ⟨_, _, rfl, Nat.le_refl _, by unfold maxLen; simp, ⟨_, 0, _, _, rfl, by simp, by simp, h.below hb⟩, ⟨_, 0, _, _, rfl, by simp, by simp, h'.below hb⟩, trivial⟩
theorem of_ts {f : Int} {l : List T} {v : Value} {w : World} (hf : I64 f) (h : TsOf l v w) : Calls Try.prog 22 #[.int .i64 f, v] w (Ret fun v' w' => IsT w' (.mk f l) v' ∧ Below w.heap.size w w') := by
  obtain ⟨a, c, rfl, h1, h2, h3⟩ := h
  refine (of_any f w a l.length c).mono ?_
  rintro e w' ⟨v', rfl, rfl, hb⟩
  exact ⟨_, rfl, ⟨hf, a, c, rfl, h1, h2, h3.below hb⟩, hb⟩
theorem i64_small {f : Int} (h : -1000 ≤ f ∧ f ≤ 1000) : I64 f := by unfold I64; omega
set_option maxRecDepth 100000 in
theorem wakes_any (w : World) : Calls Try.prog 9 #[] w (Ret fun v' w' => v' = .bool true ∧ Below w.heap.size w w') := by
  refine Calls.walk (l := []) Try.func9 rfl (by kernel_rfl) ?_
  refine WC.sub (K' := []) trivial ?_
  refine WC.seq ?_
  refine WC.region ?_
  refine WL.val (.bool false) rfl rfl rfl (fun za zC zh zk => wp_assign rfl (zh.ev rfl) zk) ?_
  refine WL.nil (WE.sub (K' := [(0, .bool false)]) ⟨rfl, trivial⟩ ?_)
  refine WE.next ?_
  refine WC.seq ?_
  refine WC.region ?_
  refine WL.call rfl rfl rfl (fun za zh zC => wp_call (by kernel_rfl) rfl (hv1 (zh.ev rfl))) (least_any 5 (by decide) _) ?_
  rintro _ w1 ⟨⟨p5, c5, rfl⟩, hO, hbl⟩
  refine WL.step (post := NewBlk w1 24 #[.bool false, .slice none 0 0, .slice none 0 0, .int .i64 0]) rfl rfl rfl (fun za zC zh zk => alloc_24 rfl (zk _ _ (newBlk _ _ _))) ?_
  rintro _ w2 ⟨g3, rfl, hg4, hB5, hb6, hz7⟩
  have hl8 : w.heap.size ≤ g3 := by have z2 := (hbl).size; omega
  have hl9 : w1.heap.size ≤ g3 := by omega
  refine WL.step (post := fun _ w' => Upd g3 w2 w' ∧ Blk w' g3 24 #[.bool true, .slice p5 5 c5, .slice none 0 0, .int .i64 0]) rfl rfl rfl (fun za zC zh zk => st_24 rfl (zh.ev rfl) (zh.ev rfl) rfl rfl rfl rfl hB5 (by first | decide | simp) (fun v => zk v _ ⟨(((Upd.at_ _ _ _ _).trans (Upd.at_ _ _ _ _)).trans (Upd.at_ _ _ _ _)).trans (Upd.at_ _ _ _ _), (((hB5.set_ 0 _).set_ 1 _).set_ 2 _).set_ 3 _⟩)) ?_
  rintro v13 w10 ⟨hu11, hB12⟩
  have hb14 : Below w.heap.size w w2 := (bstep hbl hb6)
  have hb15 := upd_below hb14 hu11 (by omega)
  have hb16 := upd_below hb6 hu11 (by omega)
  refine WL.nil (WE.sub (K' := [(0, .bool false), (1, .pointer (some ⟨g3, 0, none⟩))]) ⟨rfl, rfl, trivial⟩ ?_)
  refine WE.next ?_
  refine WC.seq ?_
  refine WC.region ?_
  refine WL.call rfl rfl rfl (fun za zh zC => wp_call (by kernel_rfl) rfl (hv2 (zh.ev rfl) (zh.ev rfl))) (of_any ((-1)) _ _ _ _) ?_
  rintro _ w18 ⟨rfl, hbo17⟩
  refine WL.call rfl rfl rfl (fun za zh zC => wp_call (by kernel_rfl) rfl (hv2 (zh.ev rfl) (zh.ev rfl))) (of_any ((-2)) _ _ _ _) ?_
  rintro _ w20 ⟨rfl, hbo19⟩
  refine WL.call rfl rfl rfl (fun za zh zC => wp_call (by kernel_rfl) rfl (hv2 (zh.ev rfl) (zh.ev rfl))) (of_any 1 _ _ _ _) ?_
  rintro _ w22 ⟨rfl, hbo21⟩
  refine WL.call rfl rfl rfl (fun za zh zC => wp_call (by kernel_rfl) rfl (hv2 (zh.ev rfl) (zh.ev rfl))) (of_any 2 _ _ _ _) ?_
  rintro _ w24 ⟨rfl, hbo23⟩
  refine WL.step (post := NewBlk w24 27 #[.int .i64 0, .slice none 0 0]) rfl rfl rfl (fun za zC zh zk => alloc_27 rfl (zk _ _ (newBlk _ _ _))) ?_
  rintro _ w25 ⟨g26, rfl, hg27, hB28, hb29, hz30⟩
  have hb31 : Below w10.heap.size w10 w24 := (bstep (bstep (bstep hbo17 hbo19) hbo21) hbo23)
  have hl32 : g3 < g26 := by have z1 := hB12.lt; have z2 := (hb31).size; omega
  have hb33 : Below w.heap.size w w24 := (bstep hb15 hb31)
  have hl34 : w.heap.size ≤ g26 := by have z2 := (hb33).size; omega
  have hb35 : Below w1.heap.size w1 w24 := (bstep hb16 hb31)
  have hl36 : w1.heap.size ≤ g26 := by have z2 := (hb35).size; omega
  refine WL.step (post := NewBlk w25 27 #[.int .i64 0, .slice none 0 0]) rfl rfl rfl (fun za zC zh zk => alloc_27 rfl (zk _ _ (newBlk _ _ _))) ?_
  rintro _ w37 ⟨g38, rfl, hg39, hB40, hb41, hz42⟩
  have hb43 : Below w10.heap.size w10 w25 := (bstep hb31 hb29)
  have hl44 : g3 < g38 := by have z1 := hB12.lt; have z2 := (hb43).size; omega
  have hl45 : g26 < g38 := by have z1 := hB28.lt; omega
  have hb46 : Below w.heap.size w w25 := (bstep hb15 hb43)
  have hl47 : w.heap.size ≤ g38 := by have z2 := (hb46).size; omega
  have hb48 : Below w1.heap.size w1 w25 := (bstep hb16 hb43)
  have hl49 : w1.heap.size ≤ g38 := by have z2 := (hb48).size; omega
  refine WL.step (post := NewBlk w37 27 #[.int .i64 0, .slice none 0 0]) rfl rfl rfl (fun za zC zh zk => alloc_27 rfl (zk _ _ (newBlk _ _ _))) ?_
  rintro _ w50 ⟨g51, rfl, hg52, hB53, hb54, hz55⟩
  have hb56 : Below w10.heap.size w10 w37 := (bstep hb43 hb41)
  have hl57 : g3 < g51 := by have z1 := hB12.lt; have z2 := (hb56).size; omega
  have hl58 : g26 < g51 := by have z1 := hB28.lt; have z2 := (hb41).size; omega
  have hl59 : g38 < g51 := by have z1 := hB40.lt; omega
  have hb60 : Below w.heap.size w w37 := (bstep hb15 hb56)
  have hl61 : w.heap.size ≤ g51 := by have z2 := (hb60).size; omega
  have hb62 : Below w1.heap.size w1 w37 := (bstep hb16 hb56)
  have hl63 : w1.heap.size ≤ g51 := by have z2 := (hb62).size; omega
  refine WL.step (post := NewBlk w50 27 #[.int .i64 0, .slice none 0 0]) rfl rfl rfl (fun za zC zh zk => alloc_27 rfl (zk _ _ (newBlk _ _ _))) ?_
  rintro _ w64 ⟨g65, rfl, hg66, hB67, hb68, hz69⟩
  have hb70 : Below w10.heap.size w10 w50 := (bstep hb56 hb54)
  have hl71 : g3 < g65 := by have z1 := hB12.lt; have z2 := (hb70).size; omega
  have hb72 : Below w25.heap.size w25 w50 := (bstep hb41 hb54)
  have hl73 : g26 < g65 := by have z1 := hB28.lt; have z2 := (hb72).size; omega
  have hl74 : g38 < g65 := by have z1 := hB40.lt; have z2 := (hb54).size; omega
  have hl75 : g51 < g65 := by have z1 := hB53.lt; omega
  have hb76 : Below w.heap.size w w50 := (bstep hb15 hb70)
  have hl77 : w.heap.size ≤ g65 := by have z2 := (hb76).size; omega
  have hb78 : Below w1.heap.size w1 w50 := (bstep hb16 hb70)
  have hl79 : w1.heap.size ≤ g65 := by have z2 := (hb78).size; omega
  have hb81 : Below w25.heap.size w25 w64 := (bstep hb72 hb68)
  have hB80 := hB28.below hb81
  refine WL.step (post := fun _ w' => Upd g26 w64 w' ∧ Blk w' g26 27 #[.int .i64 ((-1)), .slice none 0 0]) rfl rfl rfl (fun za zC zh zk => st_27 rfl (zh.ev rfl) (zh.ev rfl) rfl rfl hB80 (by first | decide | simp) (fun v => zk v _ ⟨(Upd.at_ _ _ _ _).trans (Upd.at_ _ _ _ _), (hB80.set_ 0 _).set_ 1 _⟩)) ?_
  rintro v85 w82 ⟨hu83, hB84⟩
  have hb86 : Below w.heap.size w w64 := (bstep hb46 hb81)
  have hb87 : Below w1.heap.size w1 w64 := (bstep hb48 hb81)
  have hb88 := upd_below hb86 hu83 (by omega)
  have hb89 := upd_below hb87 hu83 (by omega)
  have hb91 : Below w10.heap.size w10 w64 := (bstep hb43 hb81)
  have hB90 := hB12.below hb91
  have hB92 := upd_blk hB90 hu83 (by omega)
  have hb94 : Below w37.heap.size w37 w64 := (bstep hb54 hb68)
  have hB93 := hB40.below hb94
  have hB95 := upd_blk hB93 hu83 (by omega)
  have hB96 := hB53.below hb68
  have hB97 := upd_blk hB96 hu83 (by omega)
  have hB98 := upd_blk hB67 hu83 (by omega)
  refine WL.step (post := fun _ w' => Upd g38 w82 w' ∧ Blk w' g38 27 #[.int .i64 ((-2)), .slice none 0 0]) rfl rfl rfl (fun za zC zh zk => st_27 rfl (zh.ev rfl) (zh.ev rfl) rfl rfl hB95 (by first | decide | simp) (fun v => zk v _ ⟨(Upd.at_ _ _ _ _).trans (Upd.at_ _ _ _ _), (hB95.set_ 0 _).set_ 1 _⟩)) ?_
  rintro v102 w99 ⟨hu100, hB101⟩
  have hb103 := upd_below hb88 hu100 (by omega)
  have hb104 := upd_below hb89 hu100 (by omega)
  have hB105 := upd_blk hB92 hu100 (by omega)
  have hB106 := upd_blk hB84 hu100 (by omega)
  have hB107 := upd_blk hB97 hu100 (by omega)
  have hB108 := upd_blk hB98 hu100 (by omega)
  refine WL.step (post := fun _ w' => Upd g51 w99 w' ∧ Blk w' g51 27 #[.int .i64 1, .slice none 0 0]) rfl rfl rfl (fun za zC zh zk => st_27 rfl (zh.ev rfl) (zh.ev rfl) rfl rfl hB107 (by first | decide | simp) (fun v => zk v _ ⟨(Upd.at_ _ _ _ _).trans (Upd.at_ _ _ _ _), (hB107.set_ 0 _).set_ 1 _⟩)) ?_
  rintro v112 w109 ⟨hu110, hB111⟩
  have hb113 := upd_below hb103 hu110 (by omega)
  have hb114 := upd_below hb104 hu110 (by omega)
  have hB115 := upd_blk hB105 hu110 (by omega)
  have hB116 := upd_blk hB106 hu110 (by omega)
  have hB117 := upd_blk hB101 hu110 (by omega)
  have hB118 := upd_blk hB108 hu110 (by omega)
  refine WL.step (post := fun _ w' => Upd g65 w109 w' ∧ Blk w' g65 27 #[.int .i64 2, .slice none 0 0]) rfl rfl rfl (fun za zC zh zk => st_27 rfl (zh.ev rfl) (zh.ev rfl) rfl rfl hB118 (by first | decide | simp) (fun v => zk v _ ⟨(Upd.at_ _ _ _ _).trans (Upd.at_ _ _ _ _), (hB118.set_ 0 _).set_ 1 _⟩)) ?_
  rintro v122 w119 ⟨hu120, hB121⟩
  have hb123 := upd_below hb113 hu120 (by omega)
  have hb124 := upd_below hb114 hu120 (by omega)
  have hB125 := upd_blk hB115 hu120 (by omega)
  have hB126 := upd_blk hB116 hu120 (by omega)
  have hB127 := upd_blk hB117 hu120 (by omega)
  have hB128 := upd_blk hB111 hu120 (by omega)
  refine WL.nil (WE.sub (K' := [(0, .bool false), (1, .pointer (some ⟨g3, 0, none⟩)), (2, .pointer (some ⟨g26, 0, none⟩)), (3, .pointer (some ⟨g38, 0, none⟩)), (4, .pointer (some ⟨g51, 0, none⟩)), (5, .pointer (some ⟨g65, 0, none⟩))]) ⟨rfl, rfl, rfl, rfl, rfl, rfl, trivial⟩ ?_)
  refine WE.next ?_
  refine WC.seq ?_
  refine WC.opt [(true, .val (.agg #[.bool true, .slice p5 5 c5, .slice none 0 0, .int .i64 0])), (true, .val (.agg #[.int .i64 ((-1)), .slice none 0 0])), (true, .mem (TsOf [T.mk (-1) []]) (fun v w w' hb h => TsOf.bel h hb)), (true, .mem (fun v w => IsT w (T.mk 4 [T.mk (-1) []]) v) (fun v w w' hb h => IsT.below hb h)), (true, .val (.agg #[.int .i64 ((-1)), .slice none 0 0])), (true, .val (.agg #[.int .i64 ((-1)), .slice none 0 0])), (true, .mem (TsOf [T.mk (-1) [], T.mk (-1) []]) (fun v w w' hb h => TsOf.bel h hb)), (true, .mem (fun v w => IsT w (T.mk 3 [T.mk (-1) [], T.mk (-1) []]) v) (fun v w w' hb h => IsT.below hb h)), (true, .val (.int .i64 (((leastO 5).lcmp (T.mk 4 [T.mk (-1) []]) (T.mk 3 [T.mk (-1) [], T.mk (-1) []]))))), (true, .val (.bool (((((leastO 5).lcmp (T.mk 4 [T.mk (-1) []]) (T.mk 3 [T.mk (-1) [], T.mk (-1) []])) : Int) == (3 : Int))))), (true, .val (.bool (((((leastO 5).lcmp (T.mk 4 [T.mk (-1) []]) (T.mk 3 [T.mk (-1) [], T.mk (-1) []])) : Int) == (3 : Int))))), ((true && ((((leastO 5).lcmp (T.mk 4 [T.mk (-1) []]) (T.mk 3 [T.mk (-1) [], T.mk (-1) []])) : Int) == (3 : Int))), .val (.agg #[.bool true, .slice p5 5 c5, .slice none 0 0, .int .i64 0])), ((true && ((((leastO 5).lcmp (T.mk 4 [T.mk (-1) []]) (T.mk 3 [T.mk (-1) [], T.mk (-1) []])) : Int) == (3 : Int))), .val (.agg #[.int .i64 ((-1)), .slice none 0 0])), ((true && ((((leastO 5).lcmp (T.mk 4 [T.mk (-1) []]) (T.mk 3 [T.mk (-1) [], T.mk (-1) []])) : Int) == (3 : Int))), .val (.agg #[.int .i64 1, .slice none 0 0])), ((true && ((((leastO 5).lcmp (T.mk 4 [T.mk (-1) []]) (T.mk 3 [T.mk (-1) [], T.mk (-1) []])) : Int) == (3 : Int))), .mem (TsOf [T.mk (-1) [], T.mk 1 []]) (fun v w w' hb h => TsOf.bel h hb)), ((true && ((((leastO 5).lcmp (T.mk 4 [T.mk (-1) []]) (T.mk 3 [T.mk (-1) [], T.mk (-1) []])) : Int) == (3 : Int))), .mem (fun v w => IsT w (T.mk 3 [T.mk (-1) [], T.mk 1 []]) v) (fun v w w' hb h => IsT.below hb h)), ((true && ((((leastO 5).lcmp (T.mk 4 [T.mk (-1) []]) (T.mk 3 [T.mk (-1) [], T.mk (-1) []])) : Int) == (3 : Int))), .val (.agg #[.int .i64 ((-1)), .slice none 0 0])), ((true && ((((leastO 5).lcmp (T.mk 4 [T.mk (-1) []]) (T.mk 3 [T.mk (-1) [], T.mk (-1) []])) : Int) == (3 : Int))), .val (.int .i64 (((leastO 5).lcmp (T.mk 3 [T.mk (-1) [], T.mk 1 []]) (T.mk (-1) []))))), ((true && ((((leastO 5).lcmp (T.mk 4 [T.mk (-1) []]) (T.mk 3 [T.mk (-1) [], T.mk (-1) []])) : Int) == (3 : Int))), .val (.bool (((((leastO 5).lcmp (T.mk 3 [T.mk (-1) [], T.mk 1 []]) (T.mk (-1) [])) : Int) == (3 : Int))))), (true, .val (.bool ((((((leastO 5).lcmp (T.mk 4 [T.mk (-1) []]) (T.mk 3 [T.mk (-1) [], T.mk (-1) []])) : Int) == (3 : Int)) && ((((leastO 5).lcmp (T.mk 3 [T.mk (-1) [], T.mk 1 []]) (T.mk (-1) [])) : Int) == (3 : Int)))))), (true, .val (.bool ((((((leastO 5).lcmp (T.mk 4 [T.mk (-1) []]) (T.mk 3 [T.mk (-1) [], T.mk (-1) []])) : Int) == (3 : Int)) && ((((leastO 5).lcmp (T.mk 3 [T.mk (-1) [], T.mk 1 []]) (T.mk (-1) [])) : Int) == (3 : Int)))))), ((true && (((((leastO 5).lcmp (T.mk 4 [T.mk (-1) []]) (T.mk 3 [T.mk (-1) [], T.mk (-1) []])) : Int) == (3 : Int)) && ((((leastO 5).lcmp (T.mk 3 [T.mk (-1) [], T.mk 1 []]) (T.mk (-1) [])) : Int) == (3 : Int)))), .val (.agg #[.bool true, .slice p5 5 c5, .slice none 0 0, .int .i64 0])), ((true && (((((leastO 5).lcmp (T.mk 4 [T.mk (-1) []]) (T.mk 3 [T.mk (-1) [], T.mk (-1) []])) : Int) == (3 : Int)) && ((((leastO 5).lcmp (T.mk 3 [T.mk (-1) [], T.mk 1 []]) (T.mk (-1) [])) : Int) == (3 : Int)))), .val (.agg #[.int .i64 ((-1)), .slice none 0 0])), ((true && (((((leastO 5).lcmp (T.mk 4 [T.mk (-1) []]) (T.mk 3 [T.mk (-1) [], T.mk (-1) []])) : Int) == (3 : Int)) && ((((leastO 5).lcmp (T.mk 3 [T.mk (-1) [], T.mk 1 []]) (T.mk (-1) [])) : Int) == (3 : Int)))), .val (.agg #[.int .i64 ((-2)), .slice none 0 0])), ((true && (((((leastO 5).lcmp (T.mk 4 [T.mk (-1) []]) (T.mk 3 [T.mk (-1) [], T.mk (-1) []])) : Int) == (3 : Int)) && ((((leastO 5).lcmp (T.mk 3 [T.mk (-1) [], T.mk 1 []]) (T.mk (-1) [])) : Int) == (3 : Int)))), .mem (TsOf [T.mk (-1) [], T.mk (-2) []]) (fun v w w' hb h => TsOf.bel h hb)), ((true && (((((leastO 5).lcmp (T.mk 4 [T.mk (-1) []]) (T.mk 3 [T.mk (-1) [], T.mk (-1) []])) : Int) == (3 : Int)) && ((((leastO 5).lcmp (T.mk 3 [T.mk (-1) [], T.mk 1 []]) (T.mk (-1) [])) : Int) == (3 : Int)))), .mem (fun v w => IsT w (T.mk 3 [T.mk (-1) [], T.mk (-2) []]) v) (fun v w w' hb h => IsT.below hb h)), ((true && (((((leastO 5).lcmp (T.mk 4 [T.mk (-1) []]) (T.mk 3 [T.mk (-1) [], T.mk (-1) []])) : Int) == (3 : Int)) && ((((leastO 5).lcmp (T.mk 3 [T.mk (-1) [], T.mk 1 []]) (T.mk (-1) [])) : Int) == (3 : Int)))), .val (.agg #[.int .i64 ((-2)), .slice none 0 0])), ((true && (((((leastO 5).lcmp (T.mk 4 [T.mk (-1) []]) (T.mk 3 [T.mk (-1) [], T.mk (-1) []])) : Int) == (3 : Int)) && ((((leastO 5).lcmp (T.mk 3 [T.mk (-1) [], T.mk 1 []]) (T.mk (-1) [])) : Int) == (3 : Int)))), .val (.agg #[.int .i64 ((-1)), .slice none 0 0])), ((true && (((((leastO 5).lcmp (T.mk 4 [T.mk (-1) []]) (T.mk 3 [T.mk (-1) [], T.mk (-1) []])) : Int) == (3 : Int)) && ((((leastO 5).lcmp (T.mk 3 [T.mk (-1) [], T.mk 1 []]) (T.mk (-1) [])) : Int) == (3 : Int)))), .mem (TsOf [T.mk (-2) [], T.mk (-1) []]) (fun v w w' hb h => TsOf.bel h hb)), ((true && (((((leastO 5).lcmp (T.mk 4 [T.mk (-1) []]) (T.mk 3 [T.mk (-1) [], T.mk (-1) []])) : Int) == (3 : Int)) && ((((leastO 5).lcmp (T.mk 3 [T.mk (-1) [], T.mk 1 []]) (T.mk (-1) [])) : Int) == (3 : Int)))), .mem (fun v w => IsT w (T.mk 3 [T.mk (-2) [], T.mk (-1) []]) v) (fun v w w' hb h => IsT.below hb h)), ((true && (((((leastO 5).lcmp (T.mk 4 [T.mk (-1) []]) (T.mk 3 [T.mk (-1) [], T.mk (-1) []])) : Int) == (3 : Int)) && ((((leastO 5).lcmp (T.mk 3 [T.mk (-1) [], T.mk 1 []]) (T.mk (-1) [])) : Int) == (3 : Int)))), .val (.int .i64 (((leastO 5).lcmp (T.mk 3 [T.mk (-1) [], T.mk (-2) []]) (T.mk 3 [T.mk (-2) [], T.mk (-1) []]))))), ((true && (((((leastO 5).lcmp (T.mk 4 [T.mk (-1) []]) (T.mk 3 [T.mk (-1) [], T.mk (-1) []])) : Int) == (3 : Int)) && ((((leastO 5).lcmp (T.mk 3 [T.mk (-1) [], T.mk 1 []]) (T.mk (-1) [])) : Int) == (3 : Int)))), .val (.bool (((((leastO 5).lcmp (T.mk 3 [T.mk (-1) [], T.mk (-2) []]) (T.mk 3 [T.mk (-2) [], T.mk (-1) []])) : Int) == (0 : Int))))), (true, .val (.bool (((((((leastO 5).lcmp (T.mk 4 [T.mk (-1) []]) (T.mk 3 [T.mk (-1) [], T.mk (-1) []])) : Int) == (3 : Int)) && ((((leastO 5).lcmp (T.mk 3 [T.mk (-1) [], T.mk 1 []]) (T.mk (-1) [])) : Int) == (3 : Int))) && ((((leastO 5).lcmp (T.mk 3 [T.mk (-1) [], T.mk (-2) []]) (T.mk 3 [T.mk (-2) [], T.mk (-1) []])) : Int) == (0 : Int)))))), (true, .val (.bool (((((((leastO 5).lcmp (T.mk 4 [T.mk (-1) []]) (T.mk 3 [T.mk (-1) [], T.mk (-1) []])) : Int) == (3 : Int)) && ((((leastO 5).lcmp (T.mk 3 [T.mk (-1) [], T.mk 1 []]) (T.mk (-1) [])) : Int) == (3 : Int))) && ((((leastO 5).lcmp (T.mk 3 [T.mk (-1) [], T.mk (-2) []]) (T.mk 3 [T.mk (-2) [], T.mk (-1) []])) : Int) == (0 : Int)))))), ((true && ((((((leastO 5).lcmp (T.mk 4 [T.mk (-1) []]) (T.mk 3 [T.mk (-1) [], T.mk (-1) []])) : Int) == (3 : Int)) && ((((leastO 5).lcmp (T.mk 3 [T.mk (-1) [], T.mk 1 []]) (T.mk (-1) [])) : Int) == (3 : Int))) && ((((leastO 5).lcmp (T.mk 3 [T.mk (-1) [], T.mk (-2) []]) (T.mk 3 [T.mk (-2) [], T.mk (-1) []])) : Int) == (0 : Int)))), .val (.agg #[.bool true, .slice p5 5 c5, .slice none 0 0, .int .i64 0])), ((true && ((((((leastO 5).lcmp (T.mk 4 [T.mk (-1) []]) (T.mk 3 [T.mk (-1) [], T.mk (-1) []])) : Int) == (3 : Int)) && ((((leastO 5).lcmp (T.mk 3 [T.mk (-1) [], T.mk 1 []]) (T.mk (-1) [])) : Int) == (3 : Int))) && ((((leastO 5).lcmp (T.mk 3 [T.mk (-1) [], T.mk (-2) []]) (T.mk 3 [T.mk (-2) [], T.mk (-1) []])) : Int) == (0 : Int)))), .val (.agg #[.int .i64 1, .slice none 0 0])), ((true && ((((((leastO 5).lcmp (T.mk 4 [T.mk (-1) []]) (T.mk 3 [T.mk (-1) [], T.mk (-1) []])) : Int) == (3 : Int)) && ((((leastO 5).lcmp (T.mk 3 [T.mk (-1) [], T.mk 1 []]) (T.mk (-1) [])) : Int) == (3 : Int))) && ((((leastO 5).lcmp (T.mk 3 [T.mk (-1) [], T.mk (-2) []]) (T.mk 3 [T.mk (-2) [], T.mk (-1) []])) : Int) == (0 : Int)))), .mem (TsOf [T.mk 1 []]) (fun v w w' hb h => TsOf.bel h hb)), ((true && ((((((leastO 5).lcmp (T.mk 4 [T.mk (-1) []]) (T.mk 3 [T.mk (-1) [], T.mk (-1) []])) : Int) == (3 : Int)) && ((((leastO 5).lcmp (T.mk 3 [T.mk (-1) [], T.mk 1 []]) (T.mk (-1) [])) : Int) == (3 : Int))) && ((((leastO 5).lcmp (T.mk 3 [T.mk (-1) [], T.mk (-2) []]) (T.mk 3 [T.mk (-2) [], T.mk (-1) []])) : Int) == (0 : Int)))), .mem (fun v w => IsT w (T.mk 4 [T.mk 1 []]) v) (fun v w w' hb h => IsT.below hb h)), ((true && ((((((leastO 5).lcmp (T.mk 4 [T.mk (-1) []]) (T.mk 3 [T.mk (-1) [], T.mk (-1) []])) : Int) == (3 : Int)) && ((((leastO 5).lcmp (T.mk 3 [T.mk (-1) [], T.mk 1 []]) (T.mk (-1) [])) : Int) == (3 : Int))) && ((((leastO 5).lcmp (T.mk 3 [T.mk (-1) [], T.mk (-2) []]) (T.mk 3 [T.mk (-2) [], T.mk (-1) []])) : Int) == (0 : Int)))), .val (.agg #[.int .i64 2, .slice none 0 0])), ((true && ((((((leastO 5).lcmp (T.mk 4 [T.mk (-1) []]) (T.mk 3 [T.mk (-1) [], T.mk (-1) []])) : Int) == (3 : Int)) && ((((leastO 5).lcmp (T.mk 3 [T.mk (-1) [], T.mk 1 []]) (T.mk (-1) [])) : Int) == (3 : Int))) && ((((leastO 5).lcmp (T.mk 3 [T.mk (-1) [], T.mk (-2) []]) (T.mk 3 [T.mk (-2) [], T.mk (-1) []])) : Int) == (0 : Int)))), .val (.agg #[.int .i64 2, .slice none 0 0])), ((true && ((((((leastO 5).lcmp (T.mk 4 [T.mk (-1) []]) (T.mk 3 [T.mk (-1) [], T.mk (-1) []])) : Int) == (3 : Int)) && ((((leastO 5).lcmp (T.mk 3 [T.mk (-1) [], T.mk 1 []]) (T.mk (-1) [])) : Int) == (3 : Int))) && ((((leastO 5).lcmp (T.mk 3 [T.mk (-1) [], T.mk (-2) []]) (T.mk 3 [T.mk (-2) [], T.mk (-1) []])) : Int) == (0 : Int)))), .mem (TsOf [T.mk 2 [], T.mk 2 []]) (fun v w w' hb h => TsOf.bel h hb)), ((true && ((((((leastO 5).lcmp (T.mk 4 [T.mk (-1) []]) (T.mk 3 [T.mk (-1) [], T.mk (-1) []])) : Int) == (3 : Int)) && ((((leastO 5).lcmp (T.mk 3 [T.mk (-1) [], T.mk 1 []]) (T.mk (-1) [])) : Int) == (3 : Int))) && ((((leastO 5).lcmp (T.mk 3 [T.mk (-1) [], T.mk (-2) []]) (T.mk 3 [T.mk (-2) [], T.mk (-1) []])) : Int) == (0 : Int)))), .mem (fun v w => IsT w (T.mk 3 [T.mk 2 [], T.mk 2 []]) v) (fun v w w' hb h => IsT.below hb h)), ((true && ((((((leastO 5).lcmp (T.mk 4 [T.mk (-1) []]) (T.mk 3 [T.mk (-1) [], T.mk (-1) []])) : Int) == (3 : Int)) && ((((leastO 5).lcmp (T.mk 3 [T.mk (-1) [], T.mk 1 []]) (T.mk (-1) [])) : Int) == (3 : Int))) && ((((leastO 5).lcmp (T.mk 3 [T.mk (-1) [], T.mk (-2) []]) (T.mk 3 [T.mk (-2) [], T.mk (-1) []])) : Int) == (0 : Int)))), .val (.int .i64 (((leastO 5).lcmp (T.mk 4 [T.mk 1 []]) (T.mk 3 [T.mk 2 [], T.mk 2 []]))))), ((true && ((((((leastO 5).lcmp (T.mk 4 [T.mk (-1) []]) (T.mk 3 [T.mk (-1) [], T.mk (-1) []])) : Int) == (3 : Int)) && ((((leastO 5).lcmp (T.mk 3 [T.mk (-1) [], T.mk 1 []]) (T.mk (-1) [])) : Int) == (3 : Int))) && ((((leastO 5).lcmp (T.mk 3 [T.mk (-1) [], T.mk (-2) []]) (T.mk 3 [T.mk (-2) [], T.mk (-1) []])) : Int) == (0 : Int)))), .val (.bool (((((leastO 5).lcmp (T.mk 4 [T.mk 1 []]) (T.mk 3 [T.mk 2 [], T.mk 2 []])) : Int) == (3 : Int))))), (true, .val (.bool ((((((((leastO 5).lcmp (T.mk 4 [T.mk (-1) []]) (T.mk 3 [T.mk (-1) [], T.mk (-1) []])) : Int) == (3 : Int)) && ((((leastO 5).lcmp (T.mk 3 [T.mk (-1) [], T.mk 1 []]) (T.mk (-1) [])) : Int) == (3 : Int))) && ((((leastO 5).lcmp (T.mk 3 [T.mk (-1) [], T.mk (-2) []]) (T.mk 3 [T.mk (-2) [], T.mk (-1) []])) : Int) == (0 : Int))) && ((((leastO 5).lcmp (T.mk 4 [T.mk 1 []]) (T.mk 3 [T.mk 2 [], T.mk 2 []])) : Int) == (3 : Int)))))), (true, .val (.bool ((((((((leastO 5).lcmp (T.mk 4 [T.mk (-1) []]) (T.mk 3 [T.mk (-1) [], T.mk (-1) []])) : Int) == (3 : Int)) && ((((leastO 5).lcmp (T.mk 3 [T.mk (-1) [], T.mk 1 []]) (T.mk (-1) [])) : Int) == (3 : Int))) && ((((leastO 5).lcmp (T.mk 3 [T.mk (-1) [], T.mk (-2) []]) (T.mk 3 [T.mk (-2) [], T.mk (-1) []])) : Int) == (0 : Int))) && ((((leastO 5).lcmp (T.mk 4 [T.mk 1 []]) (T.mk 3 [T.mk 2 [], T.mk 2 []])) : Int) == (3 : Int)))))), ((true && (((((((leastO 5).lcmp (T.mk 4 [T.mk (-1) []]) (T.mk 3 [T.mk (-1) [], T.mk (-1) []])) : Int) == (3 : Int)) && ((((leastO 5).lcmp (T.mk 3 [T.mk (-1) [], T.mk 1 []]) (T.mk (-1) [])) : Int) == (3 : Int))) && ((((leastO 5).lcmp (T.mk 3 [T.mk (-1) [], T.mk (-2) []]) (T.mk 3 [T.mk (-2) [], T.mk (-1) []])) : Int) == (0 : Int))) && ((((leastO 5).lcmp (T.mk 4 [T.mk 1 []]) (T.mk 3 [T.mk 2 [], T.mk 2 []])) : Int) == (3 : Int)))), .val (.agg #[.bool true, .slice p5 5 c5, .slice none 0 0, .int .i64 0])), ((true && (((((((leastO 5).lcmp (T.mk 4 [T.mk (-1) []]) (T.mk 3 [T.mk (-1) [], T.mk (-1) []])) : Int) == (3 : Int)) && ((((leastO 5).lcmp (T.mk 3 [T.mk (-1) [], T.mk 1 []]) (T.mk (-1) [])) : Int) == (3 : Int))) && ((((leastO 5).lcmp (T.mk 3 [T.mk (-1) [], T.mk (-2) []]) (T.mk 3 [T.mk (-2) [], T.mk (-1) []])) : Int) == (0 : Int))) && ((((leastO 5).lcmp (T.mk 4 [T.mk 1 []]) (T.mk 3 [T.mk 2 [], T.mk 2 []])) : Int) == (3 : Int)))), .val (.agg #[.int .i64 1, .slice none 0 0])), ((true && (((((((leastO 5).lcmp (T.mk 4 [T.mk (-1) []]) (T.mk 3 [T.mk (-1) [], T.mk (-1) []])) : Int) == (3 : Int)) && ((((leastO 5).lcmp (T.mk 3 [T.mk (-1) [], T.mk 1 []]) (T.mk (-1) [])) : Int) == (3 : Int))) && ((((leastO 5).lcmp (T.mk 3 [T.mk (-1) [], T.mk (-2) []]) (T.mk 3 [T.mk (-2) [], T.mk (-1) []])) : Int) == (0 : Int))) && ((((leastO 5).lcmp (T.mk 4 [T.mk 1 []]) (T.mk 3 [T.mk 2 [], T.mk 2 []])) : Int) == (3 : Int)))), .val (.agg #[.int .i64 2, .slice none 0 0])), ((true && (((((((leastO 5).lcmp (T.mk 4 [T.mk (-1) []]) (T.mk 3 [T.mk (-1) [], T.mk (-1) []])) : Int) == (3 : Int)) && ((((leastO 5).lcmp (T.mk 3 [T.mk (-1) [], T.mk 1 []]) (T.mk (-1) [])) : Int) == (3 : Int))) && ((((leastO 5).lcmp (T.mk 3 [T.mk (-1) [], T.mk (-2) []]) (T.mk 3 [T.mk (-2) [], T.mk (-1) []])) : Int) == (0 : Int))) && ((((leastO 5).lcmp (T.mk 4 [T.mk 1 []]) (T.mk 3 [T.mk 2 [], T.mk 2 []])) : Int) == (3 : Int)))), .mem (TsOf [T.mk 1 [], T.mk 2 []]) (fun v w w' hb h => TsOf.bel h hb)), ((true && (((((((leastO 5).lcmp (T.mk 4 [T.mk (-1) []]) (T.mk 3 [T.mk (-1) [], T.mk (-1) []])) : Int) == (3 : Int)) && ((((leastO 5).lcmp (T.mk 3 [T.mk (-1) [], T.mk 1 []]) (T.mk (-1) [])) : Int) == (3 : Int))) && ((((leastO 5).lcmp (T.mk 3 [T.mk (-1) [], T.mk (-2) []]) (T.mk 3 [T.mk (-2) [], T.mk (-1) []])) : Int) == (0 : Int))) && ((((leastO 5).lcmp (T.mk 4 [T.mk 1 []]) (T.mk 3 [T.mk 2 [], T.mk 2 []])) : Int) == (3 : Int)))), .mem (fun v w => IsT w (T.mk 3 [T.mk 1 [], T.mk 2 []]) v) (fun v w w' hb h => IsT.below hb h)), ((true && (((((((leastO 5).lcmp (T.mk 4 [T.mk (-1) []]) (T.mk 3 [T.mk (-1) [], T.mk (-1) []])) : Int) == (3 : Int)) && ((((leastO 5).lcmp (T.mk 3 [T.mk (-1) [], T.mk 1 []]) (T.mk (-1) [])) : Int) == (3 : Int))) && ((((leastO 5).lcmp (T.mk 3 [T.mk (-1) [], T.mk (-2) []]) (T.mk 3 [T.mk (-2) [], T.mk (-1) []])) : Int) == (0 : Int))) && ((((leastO 5).lcmp (T.mk 4 [T.mk 1 []]) (T.mk 3 [T.mk 2 [], T.mk 2 []])) : Int) == (3 : Int)))), .val (.agg #[.int .i64 2, .slice none 0 0])), ((true && (((((((leastO 5).lcmp (T.mk 4 [T.mk (-1) []]) (T.mk 3 [T.mk (-1) [], T.mk (-1) []])) : Int) == (3 : Int)) && ((((leastO 5).lcmp (T.mk 3 [T.mk (-1) [], T.mk 1 []]) (T.mk (-1) [])) : Int) == (3 : Int))) && ((((leastO 5).lcmp (T.mk 3 [T.mk (-1) [], T.mk (-2) []]) (T.mk 3 [T.mk (-2) [], T.mk (-1) []])) : Int) == (0 : Int))) && ((((leastO 5).lcmp (T.mk 4 [T.mk 1 []]) (T.mk 3 [T.mk 2 [], T.mk 2 []])) : Int) == (3 : Int)))), .val (.agg #[.int .i64 1, .slice none 0 0])), ((true && (((((((leastO 5).lcmp (T.mk 4 [T.mk (-1) []]) (T.mk 3 [T.mk (-1) [], T.mk (-1) []])) : Int) == (3 : Int)) && ((((leastO 5).lcmp (T.mk 3 [T.mk (-1) [], T.mk 1 []]) (T.mk (-1) [])) : Int) == (3 : Int))) && ((((leastO 5).lcmp (T.mk 3 [T.mk (-1) [], T.mk (-2) []]) (T.mk 3 [T.mk (-2) [], T.mk (-1) []])) : Int) == (0 : Int))) && ((((leastO 5).lcmp (T.mk 4 [T.mk 1 []]) (T.mk 3 [T.mk 2 [], T.mk 2 []])) : Int) == (3 : Int)))), .mem (TsOf [T.mk 2 [], T.mk 1 []]) (fun v w w' hb h => TsOf.bel h hb)), ((true && (((((((leastO 5).lcmp (T.mk 4 [T.mk (-1) []]) (T.mk 3 [T.mk (-1) [], T.mk (-1) []])) : Int) == (3 : Int)) && ((((leastO 5).lcmp (T.mk 3 [T.mk (-1) [], T.mk 1 []]) (T.mk (-1) [])) : Int) == (3 : Int))) && ((((leastO 5).lcmp (T.mk 3 [T.mk (-1) [], T.mk (-2) []]) (T.mk 3 [T.mk (-2) [], T.mk (-1) []])) : Int) == (0 : Int))) && ((((leastO 5).lcmp (T.mk 4 [T.mk 1 []]) (T.mk 3 [T.mk 2 [], T.mk 2 []])) : Int) == (3 : Int)))), .mem (fun v w => IsT w (T.mk 3 [T.mk 2 [], T.mk 1 []]) v) (fun v w w' hb h => IsT.below hb h)), ((true && (((((((leastO 5).lcmp (T.mk 4 [T.mk (-1) []]) (T.mk 3 [T.mk (-1) [], T.mk (-1) []])) : Int) == (3 : Int)) && ((((leastO 5).lcmp (T.mk 3 [T.mk (-1) [], T.mk 1 []]) (T.mk (-1) [])) : Int) == (3 : Int))) && ((((leastO 5).lcmp (T.mk 3 [T.mk (-1) [], T.mk (-2) []]) (T.mk 3 [T.mk (-2) [], T.mk (-1) []])) : Int) == (0 : Int))) && ((((leastO 5).lcmp (T.mk 4 [T.mk 1 []]) (T.mk 3 [T.mk 2 [], T.mk 2 []])) : Int) == (3 : Int)))), .val (.int .i64 (((leastO 5).lcmp (T.mk 3 [T.mk 1 [], T.mk 2 []]) (T.mk 3 [T.mk 2 [], T.mk 1 []]))))), ((true && (((((((leastO 5).lcmp (T.mk 4 [T.mk (-1) []]) (T.mk 3 [T.mk (-1) [], T.mk (-1) []])) : Int) == (3 : Int)) && ((((leastO 5).lcmp (T.mk 3 [T.mk (-1) [], T.mk 1 []]) (T.mk (-1) [])) : Int) == (3 : Int))) && ((((leastO 5).lcmp (T.mk 3 [T.mk (-1) [], T.mk (-2) []]) (T.mk 3 [T.mk (-2) [], T.mk (-1) []])) : Int) == (0 : Int))) && ((((leastO 5).lcmp (T.mk 4 [T.mk 1 []]) (T.mk 3 [T.mk 2 [], T.mk 2 []])) : Int) == (3 : Int)))), .val (.bool (((((leastO 5).lcmp (T.mk 3 [T.mk 1 [], T.mk 2 []]) (T.mk 3 [T.mk 2 [], T.mk 1 []])) : Int) == (1 : Int))))), (true, .val (.bool (((((((((leastO 5).lcmp (T.mk 4 [T.mk (-1) []]) (T.mk 3 [T.mk (-1) [], T.mk (-1) []])) : Int) == (3 : Int)) && ((((leastO 5).lcmp (T.mk 3 [T.mk (-1) [], T.mk 1 []]) (T.mk (-1) [])) : Int) == (3 : Int))) && ((((leastO 5).lcmp (T.mk 3 [T.mk (-1) [], T.mk (-2) []]) (T.mk 3 [T.mk (-2) [], T.mk (-1) []])) : Int) == (0 : Int))) && ((((leastO 5).lcmp (T.mk 4 [T.mk 1 []]) (T.mk 3 [T.mk 2 [], T.mk 2 []])) : Int) == (3 : Int))) && ((((leastO 5).lcmp (T.mk 3 [T.mk 1 [], T.mk 2 []]) (T.mk 3 [T.mk 2 [], T.mk 1 []])) : Int) == (1 : Int)))))), (true, .val (.bool (((((((((leastO 5).lcmp (T.mk 4 [T.mk (-1) []]) (T.mk 3 [T.mk (-1) [], T.mk (-1) []])) : Int) == (3 : Int)) && ((((leastO 5).lcmp (T.mk 3 [T.mk (-1) [], T.mk 1 []]) (T.mk (-1) [])) : Int) == (3 : Int))) && ((((leastO 5).lcmp (T.mk 3 [T.mk (-1) [], T.mk (-2) []]) (T.mk 3 [T.mk (-2) [], T.mk (-1) []])) : Int) == (0 : Int))) && ((((leastO 5).lcmp (T.mk 4 [T.mk 1 []]) (T.mk 3 [T.mk 2 [], T.mk 2 []])) : Int) == (3 : Int))) && ((((leastO 5).lcmp (T.mk 3 [T.mk 1 [], T.mk 2 []]) (T.mk 3 [T.mk 2 [], T.mk 1 []])) : Int) == (1 : Int)))))), ((true && ((((((((leastO 5).lcmp (T.mk 4 [T.mk (-1) []]) (T.mk 3 [T.mk (-1) [], T.mk (-1) []])) : Int) == (3 : Int)) && ((((leastO 5).lcmp (T.mk 3 [T.mk (-1) [], T.mk 1 []]) (T.mk (-1) [])) : Int) == (3 : Int))) && ((((leastO 5).lcmp (T.mk 3 [T.mk (-1) [], T.mk (-2) []]) (T.mk 3 [T.mk (-2) [], T.mk (-1) []])) : Int) == (0 : Int))) && ((((leastO 5).lcmp (T.mk 4 [T.mk 1 []]) (T.mk 3 [T.mk 2 [], T.mk 2 []])) : Int) == (3 : Int))) && ((((leastO 5).lcmp (T.mk 3 [T.mk 1 [], T.mk 2 []]) (T.mk 3 [T.mk 2 [], T.mk 1 []])) : Int) == (1 : Int)))), .val (.agg #[.bool true, .slice p5 5 c5, .slice none 0 0, .int .i64 0])), ((true && ((((((((leastO 5).lcmp (T.mk 4 [T.mk (-1) []]) (T.mk 3 [T.mk (-1) [], T.mk (-1) []])) : Int) == (3 : Int)) && ((((leastO 5).lcmp (T.mk 3 [T.mk (-1) [], T.mk 1 []]) (T.mk (-1) [])) : Int) == (3 : Int))) && ((((leastO 5).lcmp (T.mk 3 [T.mk (-1) [], T.mk (-2) []]) (T.mk 3 [T.mk (-2) [], T.mk (-1) []])) : Int) == (0 : Int))) && ((((leastO 5).lcmp (T.mk 4 [T.mk 1 []]) (T.mk 3 [T.mk 2 [], T.mk 2 []])) : Int) == (3 : Int))) && ((((leastO 5).lcmp (T.mk 3 [T.mk 1 [], T.mk 2 []]) (T.mk 3 [T.mk 2 [], T.mk 1 []])) : Int) == (1 : Int)))), .val (.agg #[.int .i64 ((-1)), .slice none 0 0])), ((true && ((((((((leastO 5).lcmp (T.mk 4 [T.mk (-1) []]) (T.mk 3 [T.mk (-1) [], T.mk (-1) []])) : Int) == (3 : Int)) && ((((leastO 5).lcmp (T.mk 3 [T.mk (-1) [], T.mk 1 []]) (T.mk (-1) [])) : Int) == (3 : Int))) && ((((leastO 5).lcmp (T.mk 3 [T.mk (-1) [], T.mk (-2) []]) (T.mk 3 [T.mk (-2) [], T.mk (-1) []])) : Int) == (0 : Int))) && ((((leastO 5).lcmp (T.mk 4 [T.mk 1 []]) (T.mk 3 [T.mk 2 [], T.mk 2 []])) : Int) == (3 : Int))) && ((((leastO 5).lcmp (T.mk 3 [T.mk 1 [], T.mk 2 []]) (T.mk 3 [T.mk 2 [], T.mk 1 []])) : Int) == (1 : Int)))), .val (.agg #[.int .i64 ((-2)), .slice none 0 0])), ((true && ((((((((leastO 5).lcmp (T.mk 4 [T.mk (-1) []]) (T.mk 3 [T.mk (-1) [], T.mk (-1) []])) : Int) == (3 : Int)) && ((((leastO 5).lcmp (T.mk 3 [T.mk (-1) [], T.mk 1 []]) (T.mk (-1) [])) : Int) == (3 : Int))) && ((((leastO 5).lcmp (T.mk 3 [T.mk (-1) [], T.mk (-2) []]) (T.mk 3 [T.mk (-2) [], T.mk (-1) []])) : Int) == (0 : Int))) && ((((leastO 5).lcmp (T.mk 4 [T.mk 1 []]) (T.mk 3 [T.mk 2 [], T.mk 2 []])) : Int) == (3 : Int))) && ((((leastO 5).lcmp (T.mk 3 [T.mk 1 [], T.mk 2 []]) (T.mk 3 [T.mk 2 [], T.mk 1 []])) : Int) == (1 : Int)))), .val (.int .i64 (((leastO 5).lcmp (T.mk (-1) []) (T.mk (-2) []))))), ((true && ((((((((leastO 5).lcmp (T.mk 4 [T.mk (-1) []]) (T.mk 3 [T.mk (-1) [], T.mk (-1) []])) : Int) == (3 : Int)) && ((((leastO 5).lcmp (T.mk 3 [T.mk (-1) [], T.mk 1 []]) (T.mk (-1) [])) : Int) == (3 : Int))) && ((((leastO 5).lcmp (T.mk 3 [T.mk (-1) [], T.mk (-2) []]) (T.mk 3 [T.mk (-2) [], T.mk (-1) []])) : Int) == (0 : Int))) && ((((leastO 5).lcmp (T.mk 4 [T.mk 1 []]) (T.mk 3 [T.mk 2 [], T.mk 2 []])) : Int) == (3 : Int))) && ((((leastO 5).lcmp (T.mk 3 [T.mk 1 [], T.mk 2 []]) (T.mk 3 [T.mk 2 [], T.mk 1 []])) : Int) == (1 : Int)))), .val (.bool (((((leastO 5).lcmp (T.mk (-1) []) (T.mk (-2) [])) : Int) == (0 : Int))))), (true, .val (.bool ((((((((((leastO 5).lcmp (T.mk 4 [T.mk (-1) []]) (T.mk 3 [T.mk (-1) [], T.mk (-1) []])) : Int) == (3 : Int)) && ((((leastO 5).lcmp (T.mk 3 [T.mk (-1) [], T.mk 1 []]) (T.mk (-1) [])) : Int) == (3 : Int))) && ((((leastO 5).lcmp (T.mk 3 [T.mk (-1) [], T.mk (-2) []]) (T.mk 3 [T.mk (-2) [], T.mk (-1) []])) : Int) == (0 : Int))) && ((((leastO 5).lcmp (T.mk 4 [T.mk 1 []]) (T.mk 3 [T.mk 2 [], T.mk 2 []])) : Int) == (3 : Int))) && ((((leastO 5).lcmp (T.mk 3 [T.mk 1 [], T.mk 2 []]) (T.mk 3 [T.mk 2 [], T.mk 1 []])) : Int) == (1 : Int))) && ((((leastO 5).lcmp (T.mk (-1) []) (T.mk (-2) [])) : Int) == (0 : Int)))))), (true, .val (.bool ((((((((((leastO 5).lcmp (T.mk 4 [T.mk (-1) []]) (T.mk 3 [T.mk (-1) [], T.mk (-1) []])) : Int) == (3 : Int)) && ((((leastO 5).lcmp (T.mk 3 [T.mk (-1) [], T.mk 1 []]) (T.mk (-1) [])) : Int) == (3 : Int))) && ((((leastO 5).lcmp (T.mk 3 [T.mk (-1) [], T.mk (-2) []]) (T.mk 3 [T.mk (-2) [], T.mk (-1) []])) : Int) == (0 : Int))) && ((((leastO 5).lcmp (T.mk 4 [T.mk 1 []]) (T.mk 3 [T.mk 2 [], T.mk 2 []])) : Int) == (3 : Int))) && ((((leastO 5).lcmp (T.mk 3 [T.mk 1 [], T.mk 2 []]) (T.mk 3 [T.mk 2 [], T.mk 1 []])) : Int) == (1 : Int))) && ((((leastO 5).lcmp (T.mk (-1) []) (T.mk (-2) [])) : Int) == (0 : Int))))))] [(1, .pointer (some ⟨g3, 0, none⟩)), (2, .pointer (some ⟨g26, 0, none⟩)), (3, .pointer (some ⟨g38, 0, none⟩)), (4, .pointer (some ⟨g51, 0, none⟩)), (5, .pointer (some ⟨g65, 0, none⟩))] ⟨rfl, rfl, rfl, rfl, rfl, trivial⟩ (by kernel_rfl) (by kernel_rfl) (by kernel_rfl) ?_ ?_
  · refine ⟨⟨true, .none rfl, fun h w => optUndef h, fun zβ za zw zc => ?_⟩, ?_⟩
    · exact ld_24 rfl (zc.kn.ev rfl) (bkeeps zc.below _ _ ((hB125.cell 0).trans rfl)) (bkeeps zc.below _ _ ((hB125.cell 1).trans rfl)) (bkeeps zc.below _ _ ((hB125.cell 2).trans rfl)) (bkeeps zc.below _ _ ((hB125.cell 3).trans rfl)) ⟨_, rfl, Below.refl _ _, optDef zβ rfl⟩
    refine ⟨⟨true, .none rfl, fun h w => optUndef h, fun zβ za zw zc => ?_⟩, ?_⟩
    · exact ld_27 rfl (zc.kn.ev rfl) (bkeeps zc.below _ _ ((hB126.cell 0).trans rfl)) (bkeeps zc.below _ _ ((hB126.cell 1).trans rfl)) ⟨_, rfl, Below.refl _ _, optDef zβ rfl⟩
    refine ⟨⟨true, .none rfl, fun h w => optUndef h, fun zβ za zw zc => ?_⟩, ?_⟩
    · exact row_25_1 rfl ((show za.eval (.tmp 12) = za.tmps.getD 12 undef from rfl).trans (optVal (zc.dep 1 12 (by kernel_rfl)) rfl rfl)) ⟨_, rfl, balloc _ _, optDef zβ (ts1 (isT0 (i64_small (by decide))))⟩
    refine ⟨⟨true, .none rfl, fun h w => optUndef h, fun zβ za zw zc => ?_⟩, ?_⟩
    · exact wp_call (by kernel_rfl) rfl (hv2 (zc.kn.ev rfl) (show za.eval (.tmp 13) = za.tmps.getD 13 undef from rfl)) (of_ts (i64_small (by decide)) (optMem (zc.dep 2 13 (by kernel_rfl)) rfl rfl)) (fun v w' h => ⟨v, rfl, h.2, optDef zβ h.1⟩)
    refine ⟨⟨true, .none rfl, fun h w => optUndef h, fun zβ za zw zc => ?_⟩, ?_⟩
    · exact ld_27 rfl (zc.kn.ev rfl) (bkeeps zc.below _ _ ((hB126.cell 0).trans rfl)) (bkeeps zc.below _ _ ((hB126.cell 1).trans rfl)) ⟨_, rfl, Below.refl _ _, optDef zβ rfl⟩
    refine ⟨⟨true, .none rfl, fun h w => optUndef h, fun zβ za zw zc => ?_⟩, ?_⟩
    · exact ld_27 rfl (zc.kn.ev rfl) (bkeeps zc.below _ _ ((hB126.cell 0).trans rfl)) (bkeeps zc.below _ _ ((hB126.cell 1).trans rfl)) ⟨_, rfl, Below.refl _ _, optDef zβ rfl⟩
    refine ⟨⟨true, .none rfl, fun h w => optUndef h, fun zβ za zw zc => ?_⟩, ?_⟩
    · exact row_25_2 rfl ((show za.eval (.tmp 15) = za.tmps.getD 15 undef from rfl).trans (optVal (zc.dep 4 15 (by kernel_rfl)) rfl rfl)) ((show za.eval (.tmp 16) = za.tmps.getD 16 undef from rfl).trans (optVal (zc.dep 5 16 (by kernel_rfl)) rfl rfl)) ⟨_, rfl, balloc _ _, optDef zβ (ts2 (isT0 (i64_small (by decide))) (isT0 (i64_small (by decide))))⟩
    refine ⟨⟨true, .none rfl, fun h w => optUndef h, fun zβ za zw zc => ?_⟩, ?_⟩
    · exact wp_call (by kernel_rfl) rfl (hv2 (zc.kn.ev rfl) (show za.eval (.tmp 17) = za.tmps.getD 17 undef from rfl)) (of_ts (i64_small (by decide)) (optMem (zc.dep 6 17 (by kernel_rfl)) rfl rfl)) (fun v w' h => ⟨v, rfl, h.2, optDef zβ h.1⟩)
    refine ⟨⟨true, .none rfl, fun h w => optUndef h, fun zβ za zw zc => ?_⟩, ?_⟩
    · exact wp_call (by kernel_rfl) rfl (hv3 ((show za.eval (.tmp 11) = za.tmps.getD 11 undef from rfl).trans (optVal (zc.dep 0 11 (by kernel_rfl)) rfl rfl)) (show za.eval (.tmp 14) = za.tmps.getD 14 undef from rfl) (show za.eval (.tmp 18) = za.tmps.getD 18 undef from rfl)) (lcmp_any (leastO 5) (T.mk 4 [T.mk (-1) []]) (T.mk 3 [T.mk (-1) [], T.mk (-1) []]) _ _ _ _ (by decide) (by decide) (hO.below (bstep hb124 zc.below)) (optMem (zc.dep 3 14 (by kernel_rfl)) rfl rfl) (optMem (zc.dep 7 18 (by kernel_rfl)) rfl rfl)) (fun v w' h => ⟨v, rfl, h.2, optDef zβ h.1⟩)
    refine ⟨⟨true, .none rfl, fun h w => optUndef h, fun zβ za zw zc => ?_⟩, ?_⟩
    · exact eql_30 rfl ((show za.eval (.tmp 19) = za.tmps.getD 19 undef from rfl).trans (optVal (zc.dep 8 19 (by kernel_rfl)) rfl rfl)) (zc.kn.ev rfl) ⟨_, rfl, Below.refl _ _, optDef zβ rfl⟩
    refine ⟨⟨true, .none rfl, fun h w => optUndef h, fun zβ za zw zc => ?_⟩, ?_⟩
    · exact wp_move rfl ((show za.eval (.tmp 20) = za.tmps.getD 20 undef from rfl).trans (optVal (zc.dep 9 20 (by kernel_rfl)) rfl rfl)) ⟨_, rfl, Below.refl _ _, optDef zβ rfl⟩
    refine ⟨⟨(true && ((((leastO 5).lcmp (T.mk 4 [T.mk (-1) []]) (T.mk 3 [T.mk (-1) [], T.mk (-1) []])) : Int) == (3 : Int))), .yes (c := ((((leastO 5).lcmp (T.mk 4 [T.mk (-1) []]) (T.mk 3 [T.mk (-1) [], T.mk (-1) []])) : Int) == (3 : Int))) (d := true) rfl (fun v w h => h), fun h w => optUndef h, fun zβ za zw zc => ?_⟩, ?_⟩
    · exact ld_24 rfl (zc.kn.ev rfl) (bkeeps zc.below _ _ ((hB125.cell 0).trans rfl)) (bkeeps zc.below _ _ ((hB125.cell 1).trans rfl)) (bkeeps zc.below _ _ ((hB125.cell 2).trans rfl)) (bkeeps zc.below _ _ ((hB125.cell 3).trans rfl)) ⟨_, rfl, Below.refl _ _, optDef zβ rfl⟩
    refine ⟨⟨(true && ((((leastO 5).lcmp (T.mk 4 [T.mk (-1) []]) (T.mk 3 [T.mk (-1) [], T.mk (-1) []])) : Int) == (3 : Int))), .yes (c := ((((leastO 5).lcmp (T.mk 4 [T.mk (-1) []]) (T.mk 3 [T.mk (-1) [], T.mk (-1) []])) : Int) == (3 : Int))) (d := true) rfl (fun v w h => h), fun h w => optUndef h, fun zβ za zw zc => ?_⟩, ?_⟩
    · exact ld_27 rfl (zc.kn.ev rfl) (bkeeps zc.below _ _ ((hB126.cell 0).trans rfl)) (bkeeps zc.below _ _ ((hB126.cell 1).trans rfl)) ⟨_, rfl, Below.refl _ _, optDef zβ rfl⟩
    refine ⟨⟨(true && ((((leastO 5).lcmp (T.mk 4 [T.mk (-1) []]) (T.mk 3 [T.mk (-1) [], T.mk (-1) []])) : Int) == (3 : Int))), .yes (c := ((((leastO 5).lcmp (T.mk 4 [T.mk (-1) []]) (T.mk 3 [T.mk (-1) [], T.mk (-1) []])) : Int) == (3 : Int))) (d := true) rfl (fun v w h => h), fun h w => optUndef h, fun zβ za zw zc => ?_⟩, ?_⟩
    · exact ld_27 rfl (zc.kn.ev rfl) (bkeeps zc.below _ _ ((hB128.cell 0).trans rfl)) (bkeeps zc.below _ _ ((hB128.cell 1).trans rfl)) ⟨_, rfl, Below.refl _ _, optDef zβ rfl⟩
    refine ⟨⟨(true && ((((leastO 5).lcmp (T.mk 4 [T.mk (-1) []]) (T.mk 3 [T.mk (-1) [], T.mk (-1) []])) : Int) == (3 : Int))), .yes (c := ((((leastO 5).lcmp (T.mk 4 [T.mk (-1) []]) (T.mk 3 [T.mk (-1) [], T.mk (-1) []])) : Int) == (3 : Int))) (d := true) rfl (fun v w h => h), fun h w => optUndef h, fun zβ za zw zc => ?_⟩, ?_⟩
    · exact row_25_2 rfl ((show za.eval (.tmp 23) = za.tmps.getD 23 undef from rfl).trans (optVal (zc.dep 12 23 (by kernel_rfl)) rfl zβ)) ((show za.eval (.tmp 24) = za.tmps.getD 24 undef from rfl).trans (optVal (zc.dep 13 24 (by kernel_rfl)) rfl zβ)) ⟨_, rfl, balloc _ _, optDef zβ (ts2 (isT0 (i64_small (by decide))) (isT0 (i64_small (by decide))))⟩
    refine ⟨⟨(true && ((((leastO 5).lcmp (T.mk 4 [T.mk (-1) []]) (T.mk 3 [T.mk (-1) [], T.mk (-1) []])) : Int) == (3 : Int))), .yes (c := ((((leastO 5).lcmp (T.mk 4 [T.mk (-1) []]) (T.mk 3 [T.mk (-1) [], T.mk (-1) []])) : Int) == (3 : Int))) (d := true) rfl (fun v w h => h), fun h w => optUndef h, fun zβ za zw zc => ?_⟩, ?_⟩
    · exact wp_call (by kernel_rfl) rfl (hv2 (zc.kn.ev rfl) (show za.eval (.tmp 25) = za.tmps.getD 25 undef from rfl)) (of_ts (i64_small (by decide)) (optMem (zc.dep 14 25 (by kernel_rfl)) rfl zβ)) (fun v w' h => ⟨v, rfl, h.2, optDef zβ h.1⟩)
    refine ⟨⟨(true && ((((leastO 5).lcmp (T.mk 4 [T.mk (-1) []]) (T.mk 3 [T.mk (-1) [], T.mk (-1) []])) : Int) == (3 : Int))), .yes (c := ((((leastO 5).lcmp (T.mk 4 [T.mk (-1) []]) (T.mk 3 [T.mk (-1) [], T.mk (-1) []])) : Int) == (3 : Int))) (d := true) rfl (fun v w h => h), fun h w => optUndef h, fun zβ za zw zc => ?_⟩, ?_⟩
    · exact ld_27 rfl (zc.kn.ev rfl) (bkeeps zc.below _ _ ((hB126.cell 0).trans rfl)) (bkeeps zc.below _ _ ((hB126.cell 1).trans rfl)) ⟨_, rfl, Below.refl _ _, optDef zβ rfl⟩
    refine ⟨⟨(true && ((((leastO 5).lcmp (T.mk 4 [T.mk (-1) []]) (T.mk 3 [T.mk (-1) [], T.mk (-1) []])) : Int) == (3 : Int))), .yes (c := ((((leastO 5).lcmp (T.mk 4 [T.mk (-1) []]) (T.mk 3 [T.mk (-1) [], T.mk (-1) []])) : Int) == (3 : Int))) (d := true) rfl (fun v w h => h), fun h w => optUndef h, fun zβ za zw zc => ?_⟩, ?_⟩
    · exact wp_call (by kernel_rfl) rfl (hv3 ((show za.eval (.tmp 22) = za.tmps.getD 22 undef from rfl).trans (optVal (zc.dep 11 22 (by kernel_rfl)) rfl zβ)) (show za.eval (.tmp 26) = za.tmps.getD 26 undef from rfl) ((show za.eval (.tmp 27) = za.tmps.getD 27 undef from rfl).trans (optVal (zc.dep 16 27 (by kernel_rfl)) rfl zβ))) (lcmp_any (leastO 5) (T.mk 3 [T.mk (-1) [], T.mk 1 []]) (T.mk (-1) []) _ _ _ _ (by decide) (by decide) (hO.below (bstep hb124 zc.below)) (optMem (zc.dep 15 26 (by kernel_rfl)) rfl zβ) (isT0 (i64_small (by decide)))) (fun v w' h => ⟨v, rfl, h.2, optDef zβ h.1⟩)
    refine ⟨⟨(true && ((((leastO 5).lcmp (T.mk 4 [T.mk (-1) []]) (T.mk 3 [T.mk (-1) [], T.mk (-1) []])) : Int) == (3 : Int))), .yes (c := ((((leastO 5).lcmp (T.mk 4 [T.mk (-1) []]) (T.mk 3 [T.mk (-1) [], T.mk (-1) []])) : Int) == (3 : Int))) (d := true) rfl (fun v w h => h), fun h w => optUndef h, fun zβ za zw zc => ?_⟩, ?_⟩
    · exact eql_30 rfl ((show za.eval (.tmp 28) = za.tmps.getD 28 undef from rfl).trans (optVal (zc.dep 17 28 (by kernel_rfl)) rfl zβ)) (zc.kn.ev rfl) ⟨_, rfl, Below.refl _ _, optDef zβ rfl⟩
    refine ⟨⟨true, .none rfl, fun h w => optUndef h, fun zβ za zw zc => ?_⟩, ?_⟩
    · exact wp_and rfl ((show za.eval (.tmp 21) = za.tmps.getD 21 undef from rfl).trans (optVal (zc.dep 10 21 (by kernel_rfl)) rfl rfl)) (fun hp => ((show za.eval (.tmp 29) = za.tmps.getD 29 undef from rfl).trans (optVal (zc.dep 18 29 (by kernel_rfl)) rfl (bMk zβ hp)))) ⟨_, rfl, Below.refl _ _, optDef zβ rfl⟩
    refine ⟨⟨true, .none rfl, fun h w => optUndef h, fun zβ za zw zc => ?_⟩, ?_⟩
    · exact wp_move rfl ((show za.eval (.tmp 30) = za.tmps.getD 30 undef from rfl).trans (optVal (zc.dep 19 30 (by kernel_rfl)) rfl rfl)) ⟨_, rfl, Below.refl _ _, optDef zβ rfl⟩
    refine ⟨⟨(true && (((((leastO 5).lcmp (T.mk 4 [T.mk (-1) []]) (T.mk 3 [T.mk (-1) [], T.mk (-1) []])) : Int) == (3 : Int)) && ((((leastO 5).lcmp (T.mk 3 [T.mk (-1) [], T.mk 1 []]) (T.mk (-1) [])) : Int) == (3 : Int)))), .yes (c := (((((leastO 5).lcmp (T.mk 4 [T.mk (-1) []]) (T.mk 3 [T.mk (-1) [], T.mk (-1) []])) : Int) == (3 : Int)) && ((((leastO 5).lcmp (T.mk 3 [T.mk (-1) [], T.mk 1 []]) (T.mk (-1) [])) : Int) == (3 : Int)))) (d := true) rfl (fun v w h => h), fun h w => optUndef h, fun zβ za zw zc => ?_⟩, ?_⟩
    · exact ld_24 rfl (zc.kn.ev rfl) (bkeeps zc.below _ _ ((hB125.cell 0).trans rfl)) (bkeeps zc.below _ _ ((hB125.cell 1).trans rfl)) (bkeeps zc.below _ _ ((hB125.cell 2).trans rfl)) (bkeeps zc.below _ _ ((hB125.cell 3).trans rfl)) ⟨_, rfl, Below.refl _ _, optDef zβ rfl⟩
    refine ⟨⟨(true && (((((leastO 5).lcmp (T.mk 4 [T.mk (-1) []]) (T.mk 3 [T.mk (-1) [], T.mk (-1) []])) : Int) == (3 : Int)) && ((((leastO 5).lcmp (T.mk 3 [T.mk (-1) [], T.mk 1 []]) (T.mk (-1) [])) : Int) == (3 : Int)))), .yes (c := (((((leastO 5).lcmp (T.mk 4 [T.mk (-1) []]) (T.mk 3 [T.mk (-1) [], T.mk (-1) []])) : Int) == (3 : Int)) && ((((leastO 5).lcmp (T.mk 3 [T.mk (-1) [], T.mk 1 []]) (T.mk (-1) [])) : Int) == (3 : Int)))) (d := true) rfl (fun v w h => h), fun h w => optUndef h, fun zβ za zw zc => ?_⟩, ?_⟩
    · exact ld_27 rfl (zc.kn.ev rfl) (bkeeps zc.below _ _ ((hB126.cell 0).trans rfl)) (bkeeps zc.below _ _ ((hB126.cell 1).trans rfl)) ⟨_, rfl, Below.refl _ _, optDef zβ rfl⟩
    refine ⟨⟨(true && (((((leastO 5).lcmp (T.mk 4 [T.mk (-1) []]) (T.mk 3 [T.mk (-1) [], T.mk (-1) []])) : Int) == (3 : Int)) && ((((leastO 5).lcmp (T.mk 3 [T.mk (-1) [], T.mk 1 []]) (T.mk (-1) [])) : Int) == (3 : Int)))), .yes (c := (((((leastO 5).lcmp (T.mk 4 [T.mk (-1) []]) (T.mk 3 [T.mk (-1) [], T.mk (-1) []])) : Int) == (3 : Int)) && ((((leastO 5).lcmp (T.mk 3 [T.mk (-1) [], T.mk 1 []]) (T.mk (-1) [])) : Int) == (3 : Int)))) (d := true) rfl (fun v w h => h), fun h w => optUndef h, fun zβ za zw zc => ?_⟩, ?_⟩
    · exact ld_27 rfl (zc.kn.ev rfl) (bkeeps zc.below _ _ ((hB127.cell 0).trans rfl)) (bkeeps zc.below _ _ ((hB127.cell 1).trans rfl)) ⟨_, rfl, Below.refl _ _, optDef zβ rfl⟩
    refine ⟨⟨(true && (((((leastO 5).lcmp (T.mk 4 [T.mk (-1) []]) (T.mk 3 [T.mk (-1) [], T.mk (-1) []])) : Int) == (3 : Int)) && ((((leastO 5).lcmp (T.mk 3 [T.mk (-1) [], T.mk 1 []]) (T.mk (-1) [])) : Int) == (3 : Int)))), .yes (c := (((((leastO 5).lcmp (T.mk 4 [T.mk (-1) []]) (T.mk 3 [T.mk (-1) [], T.mk (-1) []])) : Int) == (3 : Int)) && ((((leastO 5).lcmp (T.mk 3 [T.mk (-1) [], T.mk 1 []]) (T.mk (-1) [])) : Int) == (3 : Int)))) (d := true) rfl (fun v w h => h), fun h w => optUndef h, fun zβ za zw zc => ?_⟩, ?_⟩
    · exact row_25_2 rfl ((show za.eval (.tmp 33) = za.tmps.getD 33 undef from rfl).trans (optVal (zc.dep 22 33 (by kernel_rfl)) rfl zβ)) ((show za.eval (.tmp 34) = za.tmps.getD 34 undef from rfl).trans (optVal (zc.dep 23 34 (by kernel_rfl)) rfl zβ)) ⟨_, rfl, balloc _ _, optDef zβ (ts2 (isT0 (i64_small (by decide))) (isT0 (i64_small (by decide))))⟩
    refine ⟨⟨(true && (((((leastO 5).lcmp (T.mk 4 [T.mk (-1) []]) (T.mk 3 [T.mk (-1) [], T.mk (-1) []])) : Int) == (3 : Int)) && ((((leastO 5).lcmp (T.mk 3 [T.mk (-1) [], T.mk 1 []]) (T.mk (-1) [])) : Int) == (3 : Int)))), .yes (c := (((((leastO 5).lcmp (T.mk 4 [T.mk (-1) []]) (T.mk 3 [T.mk (-1) [], T.mk (-1) []])) : Int) == (3 : Int)) && ((((leastO 5).lcmp (T.mk 3 [T.mk (-1) [], T.mk 1 []]) (T.mk (-1) [])) : Int) == (3 : Int)))) (d := true) rfl (fun v w h => h), fun h w => optUndef h, fun zβ za zw zc => ?_⟩, ?_⟩
    · exact wp_call (by kernel_rfl) rfl (hv2 (zc.kn.ev rfl) (show za.eval (.tmp 35) = za.tmps.getD 35 undef from rfl)) (of_ts (i64_small (by decide)) (optMem (zc.dep 24 35 (by kernel_rfl)) rfl zβ)) (fun v w' h => ⟨v, rfl, h.2, optDef zβ h.1⟩)
    refine ⟨⟨(true && (((((leastO 5).lcmp (T.mk 4 [T.mk (-1) []]) (T.mk 3 [T.mk (-1) [], T.mk (-1) []])) : Int) == (3 : Int)) && ((((leastO 5).lcmp (T.mk 3 [T.mk (-1) [], T.mk 1 []]) (T.mk (-1) [])) : Int) == (3 : Int)))), .yes (c := (((((leastO 5).lcmp (T.mk 4 [T.mk (-1) []]) (T.mk 3 [T.mk (-1) [], T.mk (-1) []])) : Int) == (3 : Int)) && ((((leastO 5).lcmp (T.mk 3 [T.mk (-1) [], T.mk 1 []]) (T.mk (-1) [])) : Int) == (3 : Int)))) (d := true) rfl (fun v w h => h), fun h w => optUndef h, fun zβ za zw zc => ?_⟩, ?_⟩
    · exact ld_27 rfl (zc.kn.ev rfl) (bkeeps zc.below _ _ ((hB127.cell 0).trans rfl)) (bkeeps zc.below _ _ ((hB127.cell 1).trans rfl)) ⟨_, rfl, Below.refl _ _, optDef zβ rfl⟩
    refine ⟨⟨(true && (((((leastO 5).lcmp (T.mk 4 [T.mk (-1) []]) (T.mk 3 [T.mk (-1) [], T.mk (-1) []])) : Int) == (3 : Int)) && ((((leastO 5).lcmp (T.mk 3 [T.mk (-1) [], T.mk 1 []]) (T.mk (-1) [])) : Int) == (3 : Int)))), .yes (c := (((((leastO 5).lcmp (T.mk 4 [T.mk (-1) []]) (T.mk 3 [T.mk (-1) [], T.mk (-1) []])) : Int) == (3 : Int)) && ((((leastO 5).lcmp (T.mk 3 [T.mk (-1) [], T.mk 1 []]) (T.mk (-1) [])) : Int) == (3 : Int)))) (d := true) rfl (fun v w h => h), fun h w => optUndef h, fun zβ za zw zc => ?_⟩, ?_⟩
    · exact ld_27 rfl (zc.kn.ev rfl) (bkeeps zc.below _ _ ((hB126.cell 0).trans rfl)) (bkeeps zc.below _ _ ((hB126.cell 1).trans rfl)) ⟨_, rfl, Below.refl _ _, optDef zβ rfl⟩
    refine ⟨⟨(true && (((((leastO 5).lcmp (T.mk 4 [T.mk (-1) []]) (T.mk 3 [T.mk (-1) [], T.mk (-1) []])) : Int) == (3 : Int)) && ((((leastO 5).lcmp (T.mk 3 [T.mk (-1) [], T.mk 1 []]) (T.mk (-1) [])) : Int) == (3 : Int)))), .yes (c := (((((leastO 5).lcmp (T.mk 4 [T.mk (-1) []]) (T.mk 3 [T.mk (-1) [], T.mk (-1) []])) : Int) == (3 : Int)) && ((((leastO 5).lcmp (T.mk 3 [T.mk (-1) [], T.mk 1 []]) (T.mk (-1) [])) : Int) == (3 : Int)))) (d := true) rfl (fun v w h => h), fun h w => optUndef h, fun zβ za zw zc => ?_⟩, ?_⟩
    · exact row_25_2 rfl ((show za.eval (.tmp 37) = za.tmps.getD 37 undef from rfl).trans (optVal (zc.dep 26 37 (by kernel_rfl)) rfl zβ)) ((show za.eval (.tmp 38) = za.tmps.getD 38 undef from rfl).trans (optVal (zc.dep 27 38 (by kernel_rfl)) rfl zβ)) ⟨_, rfl, balloc _ _, optDef zβ (ts2 (isT0 (i64_small (by decide))) (isT0 (i64_small (by decide))))⟩
    refine ⟨⟨(true && (((((leastO 5).lcmp (T.mk 4 [T.mk (-1) []]) (T.mk 3 [T.mk (-1) [], T.mk (-1) []])) : Int) == (3 : Int)) && ((((leastO 5).lcmp (T.mk 3 [T.mk (-1) [], T.mk 1 []]) (T.mk (-1) [])) : Int) == (3 : Int)))), .yes (c := (((((leastO 5).lcmp (T.mk 4 [T.mk (-1) []]) (T.mk 3 [T.mk (-1) [], T.mk (-1) []])) : Int) == (3 : Int)) && ((((leastO 5).lcmp (T.mk 3 [T.mk (-1) [], T.mk 1 []]) (T.mk (-1) [])) : Int) == (3 : Int)))) (d := true) rfl (fun v w h => h), fun h w => optUndef h, fun zβ za zw zc => ?_⟩, ?_⟩
    · exact wp_call (by kernel_rfl) rfl (hv2 (zc.kn.ev rfl) (show za.eval (.tmp 39) = za.tmps.getD 39 undef from rfl)) (of_ts (i64_small (by decide)) (optMem (zc.dep 28 39 (by kernel_rfl)) rfl zβ)) (fun v w' h => ⟨v, rfl, h.2, optDef zβ h.1⟩)
    refine ⟨⟨(true && (((((leastO 5).lcmp (T.mk 4 [T.mk (-1) []]) (T.mk 3 [T.mk (-1) [], T.mk (-1) []])) : Int) == (3 : Int)) && ((((leastO 5).lcmp (T.mk 3 [T.mk (-1) [], T.mk 1 []]) (T.mk (-1) [])) : Int) == (3 : Int)))), .yes (c := (((((leastO 5).lcmp (T.mk 4 [T.mk (-1) []]) (T.mk 3 [T.mk (-1) [], T.mk (-1) []])) : Int) == (3 : Int)) && ((((leastO 5).lcmp (T.mk 3 [T.mk (-1) [], T.mk 1 []]) (T.mk (-1) [])) : Int) == (3 : Int)))) (d := true) rfl (fun v w h => h), fun h w => optUndef h, fun zβ za zw zc => ?_⟩, ?_⟩
    · exact wp_call (by kernel_rfl) rfl (hv3 ((show za.eval (.tmp 32) = za.tmps.getD 32 undef from rfl).trans (optVal (zc.dep 21 32 (by kernel_rfl)) rfl zβ)) (show za.eval (.tmp 36) = za.tmps.getD 36 undef from rfl) (show za.eval (.tmp 40) = za.tmps.getD 40 undef from rfl)) (lcmp_any (leastO 5) (T.mk 3 [T.mk (-1) [], T.mk (-2) []]) (T.mk 3 [T.mk (-2) [], T.mk (-1) []]) _ _ _ _ (by decide) (by decide) (hO.below (bstep hb124 zc.below)) (optMem (zc.dep 25 36 (by kernel_rfl)) rfl zβ) (optMem (zc.dep 29 40 (by kernel_rfl)) rfl zβ)) (fun v w' h => ⟨v, rfl, h.2, optDef zβ h.1⟩)
    refine ⟨⟨(true && (((((leastO 5).lcmp (T.mk 4 [T.mk (-1) []]) (T.mk 3 [T.mk (-1) [], T.mk (-1) []])) : Int) == (3 : Int)) && ((((leastO 5).lcmp (T.mk 3 [T.mk (-1) [], T.mk 1 []]) (T.mk (-1) [])) : Int) == (3 : Int)))), .yes (c := (((((leastO 5).lcmp (T.mk 4 [T.mk (-1) []]) (T.mk 3 [T.mk (-1) [], T.mk (-1) []])) : Int) == (3 : Int)) && ((((leastO 5).lcmp (T.mk 3 [T.mk (-1) [], T.mk 1 []]) (T.mk (-1) [])) : Int) == (3 : Int)))) (d := true) rfl (fun v w h => h), fun h w => optUndef h, fun zβ za zw zc => ?_⟩, ?_⟩
    · exact eql_30 rfl ((show za.eval (.tmp 41) = za.tmps.getD 41 undef from rfl).trans (optVal (zc.dep 30 41 (by kernel_rfl)) rfl zβ)) (zc.kn.ev rfl) ⟨_, rfl, Below.refl _ _, optDef zβ rfl⟩
    refine ⟨⟨true, .none rfl, fun h w => optUndef h, fun zβ za zw zc => ?_⟩, ?_⟩
    · exact wp_and rfl ((show za.eval (.tmp 31) = za.tmps.getD 31 undef from rfl).trans (optVal (zc.dep 20 31 (by kernel_rfl)) rfl rfl)) (fun hp => ((show za.eval (.tmp 42) = za.tmps.getD 42 undef from rfl).trans (optVal (zc.dep 31 42 (by kernel_rfl)) rfl (bMk zβ hp)))) ⟨_, rfl, Below.refl _ _, optDef zβ rfl⟩
    refine ⟨⟨true, .none rfl, fun h w => optUndef h, fun zβ za zw zc => ?_⟩, ?_⟩
    · exact wp_move rfl ((show za.eval (.tmp 43) = za.tmps.getD 43 undef from rfl).trans (optVal (zc.dep 32 43 (by kernel_rfl)) rfl rfl)) ⟨_, rfl, Below.refl _ _, optDef zβ rfl⟩
    refine ⟨⟨(true && ((((((leastO 5).lcmp (T.mk 4 [T.mk (-1) []]) (T.mk 3 [T.mk (-1) [], T.mk (-1) []])) : Int) == (3 : Int)) && ((((leastO 5).lcmp (T.mk 3 [T.mk (-1) [], T.mk 1 []]) (T.mk (-1) [])) : Int) == (3 : Int))) && ((((leastO 5).lcmp (T.mk 3 [T.mk (-1) [], T.mk (-2) []]) (T.mk 3 [T.mk (-2) [], T.mk (-1) []])) : Int) == (0 : Int)))), .yes (c := ((((((leastO 5).lcmp (T.mk 4 [T.mk (-1) []]) (T.mk 3 [T.mk (-1) [], T.mk (-1) []])) : Int) == (3 : Int)) && ((((leastO 5).lcmp (T.mk 3 [T.mk (-1) [], T.mk 1 []]) (T.mk (-1) [])) : Int) == (3 : Int))) && ((((leastO 5).lcmp (T.mk 3 [T.mk (-1) [], T.mk (-2) []]) (T.mk 3 [T.mk (-2) [], T.mk (-1) []])) : Int) == (0 : Int)))) (d := true) rfl (fun v w h => h), fun h w => optUndef h, fun zβ za zw zc => ?_⟩, ?_⟩
    · exact ld_24 rfl (zc.kn.ev rfl) (bkeeps zc.below _ _ ((hB125.cell 0).trans rfl)) (bkeeps zc.below _ _ ((hB125.cell 1).trans rfl)) (bkeeps zc.below _ _ ((hB125.cell 2).trans rfl)) (bkeeps zc.below _ _ ((hB125.cell 3).trans rfl)) ⟨_, rfl, Below.refl _ _, optDef zβ rfl⟩
    refine ⟨⟨(true && ((((((leastO 5).lcmp (T.mk 4 [T.mk (-1) []]) (T.mk 3 [T.mk (-1) [], T.mk (-1) []])) : Int) == (3 : Int)) && ((((leastO 5).lcmp (T.mk 3 [T.mk (-1) [], T.mk 1 []]) (T.mk (-1) [])) : Int) == (3 : Int))) && ((((leastO 5).lcmp (T.mk 3 [T.mk (-1) [], T.mk (-2) []]) (T.mk 3 [T.mk (-2) [], T.mk (-1) []])) : Int) == (0 : Int)))), .yes (c := ((((((leastO 5).lcmp (T.mk 4 [T.mk (-1) []]) (T.mk 3 [T.mk (-1) [], T.mk (-1) []])) : Int) == (3 : Int)) && ((((leastO 5).lcmp (T.mk 3 [T.mk (-1) [], T.mk 1 []]) (T.mk (-1) [])) : Int) == (3 : Int))) && ((((leastO 5).lcmp (T.mk 3 [T.mk (-1) [], T.mk (-2) []]) (T.mk 3 [T.mk (-2) [], T.mk (-1) []])) : Int) == (0 : Int)))) (d := true) rfl (fun v w h => h), fun h w => optUndef h, fun zβ za zw zc => ?_⟩, ?_⟩
    · exact ld_27 rfl (zc.kn.ev rfl) (bkeeps zc.below _ _ ((hB128.cell 0).trans rfl)) (bkeeps zc.below _ _ ((hB128.cell 1).trans rfl)) ⟨_, rfl, Below.refl _ _, optDef zβ rfl⟩
    refine ⟨⟨(true && ((((((leastO 5).lcmp (T.mk 4 [T.mk (-1) []]) (T.mk 3 [T.mk (-1) [], T.mk (-1) []])) : Int) == (3 : Int)) && ((((leastO 5).lcmp (T.mk 3 [T.mk (-1) [], T.mk 1 []]) (T.mk (-1) [])) : Int) == (3 : Int))) && ((((leastO 5).lcmp (T.mk 3 [T.mk (-1) [], T.mk (-2) []]) (T.mk 3 [T.mk (-2) [], T.mk (-1) []])) : Int) == (0 : Int)))), .yes (c := ((((((leastO 5).lcmp (T.mk 4 [T.mk (-1) []]) (T.mk 3 [T.mk (-1) [], T.mk (-1) []])) : Int) == (3 : Int)) && ((((leastO 5).lcmp (T.mk 3 [T.mk (-1) [], T.mk 1 []]) (T.mk (-1) [])) : Int) == (3 : Int))) && ((((leastO 5).lcmp (T.mk 3 [T.mk (-1) [], T.mk (-2) []]) (T.mk 3 [T.mk (-2) [], T.mk (-1) []])) : Int) == (0 : Int)))) (d := true) rfl (fun v w h => h), fun h w => optUndef h, fun zβ za zw zc => ?_⟩, ?_⟩
    · exact row_25_1 rfl ((show za.eval (.tmp 46) = za.tmps.getD 46 undef from rfl).trans (optVal (zc.dep 35 46 (by kernel_rfl)) rfl zβ)) ⟨_, rfl, balloc _ _, optDef zβ (ts1 (isT0 (i64_small (by decide))))⟩
    refine ⟨⟨(true && ((((((leastO 5).lcmp (T.mk 4 [T.mk (-1) []]) (T.mk 3 [T.mk (-1) [], T.mk (-1) []])) : Int) == (3 : Int)) && ((((leastO 5).lcmp (T.mk 3 [T.mk (-1) [], T.mk 1 []]) (T.mk (-1) [])) : Int) == (3 : Int))) && ((((leastO 5).lcmp (T.mk 3 [T.mk (-1) [], T.mk (-2) []]) (T.mk 3 [T.mk (-2) [], T.mk (-1) []])) : Int) == (0 : Int)))), .yes (c := ((((((leastO 5).lcmp (T.mk 4 [T.mk (-1) []]) (T.mk 3 [T.mk (-1) [], T.mk (-1) []])) : Int) == (3 : Int)) && ((((leastO 5).lcmp (T.mk 3 [T.mk (-1) [], T.mk 1 []]) (T.mk (-1) [])) : Int) == (3 : Int))) && ((((leastO 5).lcmp (T.mk 3 [T.mk (-1) [], T.mk (-2) []]) (T.mk 3 [T.mk (-2) [], T.mk (-1) []])) : Int) == (0 : Int)))) (d := true) rfl (fun v w h => h), fun h w => optUndef h, fun zβ za zw zc => ?_⟩, ?_⟩
    · exact wp_call (by kernel_rfl) rfl (hv2 (zc.kn.ev rfl) (show za.eval (.tmp 47) = za.tmps.getD 47 undef from rfl)) (of_ts (i64_small (by decide)) (optMem (zc.dep 36 47 (by kernel_rfl)) rfl zβ)) (fun v w' h => ⟨v, rfl, h.2, optDef zβ h.1⟩)
    refine ⟨⟨(true && ((((((leastO 5).lcmp (T.mk 4 [T.mk (-1) []]) (T.mk 3 [T.mk (-1) [], T.mk (-1) []])) : Int) == (3 : Int)) && ((((leastO 5).lcmp (T.mk 3 [T.mk (-1) [], T.mk 1 []]) (T.mk (-1) [])) : Int) == (3 : Int))) && ((((leastO 5).lcmp (T.mk 3 [T.mk (-1) [], T.mk (-2) []]) (T.mk 3 [T.mk (-2) [], T.mk (-1) []])) : Int) == (0 : Int)))), .yes (c := ((((((leastO 5).lcmp (T.mk 4 [T.mk (-1) []]) (T.mk 3 [T.mk (-1) [], T.mk (-1) []])) : Int) == (3 : Int)) && ((((leastO 5).lcmp (T.mk 3 [T.mk (-1) [], T.mk 1 []]) (T.mk (-1) [])) : Int) == (3 : Int))) && ((((leastO 5).lcmp (T.mk 3 [T.mk (-1) [], T.mk (-2) []]) (T.mk 3 [T.mk (-2) [], T.mk (-1) []])) : Int) == (0 : Int)))) (d := true) rfl (fun v w h => h), fun h w => optUndef h, fun zβ za zw zc => ?_⟩, ?_⟩
    · exact ld_27 rfl (zc.kn.ev rfl) (bkeeps zc.below _ _ ((hB121.cell 0).trans rfl)) (bkeeps zc.below _ _ ((hB121.cell 1).trans rfl)) ⟨_, rfl, Below.refl _ _, optDef zβ rfl⟩
    refine ⟨⟨(true && ((((((leastO 5).lcmp (T.mk 4 [T.mk (-1) []]) (T.mk 3 [T.mk (-1) [], T.mk (-1) []])) : Int) == (3 : Int)) && ((((leastO 5).lcmp (T.mk 3 [T.mk (-1) [], T.mk 1 []]) (T.mk (-1) [])) : Int) == (3 : Int))) && ((((leastO 5).lcmp (T.mk 3 [T.mk (-1) [], T.mk (-2) []]) (T.mk 3 [T.mk (-2) [], T.mk (-1) []])) : Int) == (0 : Int)))), .yes (c := ((((((leastO 5).lcmp (T.mk 4 [T.mk (-1) []]) (T.mk 3 [T.mk (-1) [], T.mk (-1) []])) : Int) == (3 : Int)) && ((((leastO 5).lcmp (T.mk 3 [T.mk (-1) [], T.mk 1 []]) (T.mk (-1) [])) : Int) == (3 : Int))) && ((((leastO 5).lcmp (T.mk 3 [T.mk (-1) [], T.mk (-2) []]) (T.mk 3 [T.mk (-2) [], T.mk (-1) []])) : Int) == (0 : Int)))) (d := true) rfl (fun v w h => h), fun h w => optUndef h, fun zβ za zw zc => ?_⟩, ?_⟩
    · exact ld_27 rfl (zc.kn.ev rfl) (bkeeps zc.below _ _ ((hB121.cell 0).trans rfl)) (bkeeps zc.below _ _ ((hB121.cell 1).trans rfl)) ⟨_, rfl, Below.refl _ _, optDef zβ rfl⟩
    refine ⟨⟨(true && ((((((leastO 5).lcmp (T.mk 4 [T.mk (-1) []]) (T.mk 3 [T.mk (-1) [], T.mk (-1) []])) : Int) == (3 : Int)) && ((((leastO 5).lcmp (T.mk 3 [T.mk (-1) [], T.mk 1 []]) (T.mk (-1) [])) : Int) == (3 : Int))) && ((((leastO 5).lcmp (T.mk 3 [T.mk (-1) [], T.mk (-2) []]) (T.mk 3 [T.mk (-2) [], T.mk (-1) []])) : Int) == (0 : Int)))), .yes (c := ((((((leastO 5).lcmp (T.mk 4 [T.mk (-1) []]) (T.mk 3 [T.mk (-1) [], T.mk (-1) []])) : Int) == (3 : Int)) && ((((leastO 5).lcmp (T.mk 3 [T.mk (-1) [], T.mk 1 []]) (T.mk (-1) [])) : Int) == (3 : Int))) && ((((leastO 5).lcmp (T.mk 3 [T.mk (-1) [], T.mk (-2) []]) (T.mk 3 [T.mk (-2) [], T.mk (-1) []])) : Int) == (0 : Int)))) (d := true) rfl (fun v w h => h), fun h w => optUndef h, fun zβ za zw zc => ?_⟩, ?_⟩
    · exact row_25_2 rfl ((show za.eval (.tmp 49) = za.tmps.getD 49 undef from rfl).trans (optVal (zc.dep 38 49 (by kernel_rfl)) rfl zβ)) ((show za.eval (.tmp 50) = za.tmps.getD 50 undef from rfl).trans (optVal (zc.dep 39 50 (by kernel_rfl)) rfl zβ)) ⟨_, rfl, balloc _ _, optDef zβ (ts2 (isT0 (i64_small (by decide))) (isT0 (i64_small (by decide))))⟩
    refine ⟨⟨(true && ((((((leastO 5).lcmp (T.mk 4 [T.mk (-1) []]) (T.mk 3 [T.mk (-1) [], T.mk (-1) []])) : Int) == (3 : Int)) && ((((leastO 5).lcmp (T.mk 3 [T.mk (-1) [], T.mk 1 []]) (T.mk (-1) [])) : Int) == (3 : Int))) && ((((leastO 5).lcmp (T.mk 3 [T.mk (-1) [], T.mk (-2) []]) (T.mk 3 [T.mk (-2) [], T.mk (-1) []])) : Int) == (0 : Int)))), .yes (c := ((((((leastO 5).lcmp (T.mk 4 [T.mk (-1) []]) (T.mk 3 [T.mk (-1) [], T.mk (-1) []])) : Int) == (3 : Int)) && ((((leastO 5).lcmp (T.mk 3 [T.mk (-1) [], T.mk 1 []]) (T.mk (-1) [])) : Int) == (3 : Int))) && ((((leastO 5).lcmp (T.mk 3 [T.mk (-1) [], T.mk (-2) []]) (T.mk 3 [T.mk (-2) [], T.mk (-1) []])) : Int) == (0 : Int)))) (d := true) rfl (fun v w h => h), fun h w => optUndef h, fun zβ za zw zc => ?_⟩, ?_⟩
    · exact wp_call (by kernel_rfl) rfl (hv2 (zc.kn.ev rfl) (show za.eval (.tmp 51) = za.tmps.getD 51 undef from rfl)) (of_ts (i64_small (by decide)) (optMem (zc.dep 40 51 (by kernel_rfl)) rfl zβ)) (fun v w' h => ⟨v, rfl, h.2, optDef zβ h.1⟩)
    refine ⟨⟨(true && ((((((leastO 5).lcmp (T.mk 4 [T.mk (-1) []]) (T.mk 3 [T.mk (-1) [], T.mk (-1) []])) : Int) == (3 : Int)) && ((((leastO 5).lcmp (T.mk 3 [T.mk (-1) [], T.mk 1 []]) (T.mk (-1) [])) : Int) == (3 : Int))) && ((((leastO 5).lcmp (T.mk 3 [T.mk (-1) [], T.mk (-2) []]) (T.mk 3 [T.mk (-2) [], T.mk (-1) []])) : Int) == (0 : Int)))), .yes (c := ((((((leastO 5).lcmp (T.mk 4 [T.mk (-1) []]) (T.mk 3 [T.mk (-1) [], T.mk (-1) []])) : Int) == (3 : Int)) && ((((leastO 5).lcmp (T.mk 3 [T.mk (-1) [], T.mk 1 []]) (T.mk (-1) [])) : Int) == (3 : Int))) && ((((leastO 5).lcmp (T.mk 3 [T.mk (-1) [], T.mk (-2) []]) (T.mk 3 [T.mk (-2) [], T.mk (-1) []])) : Int) == (0 : Int)))) (d := true) rfl (fun v w h => h), fun h w => optUndef h, fun zβ za zw zc => ?_⟩, ?_⟩
    · exact wp_call (by kernel_rfl) rfl (hv3 ((show za.eval (.tmp 45) = za.tmps.getD 45 undef from rfl).trans (optVal (zc.dep 34 45 (by kernel_rfl)) rfl zβ)) (show za.eval (.tmp 48) = za.tmps.getD 48 undef from rfl) (show za.eval (.tmp 52) = za.tmps.getD 52 undef from rfl)) (lcmp_any (leastO 5) (T.mk 4 [T.mk 1 []]) (T.mk 3 [T.mk 2 [], T.mk 2 []]) _ _ _ _ (by decide) (by decide) (hO.below (bstep hb124 zc.below)) (optMem (zc.dep 37 48 (by kernel_rfl)) rfl zβ) (optMem (zc.dep 41 52 (by kernel_rfl)) rfl zβ)) (fun v w' h => ⟨v, rfl, h.2, optDef zβ h.1⟩)
    refine ⟨⟨(true && ((((((leastO 5).lcmp (T.mk 4 [T.mk (-1) []]) (T.mk 3 [T.mk (-1) [], T.mk (-1) []])) : Int) == (3 : Int)) && ((((leastO 5).lcmp (T.mk 3 [T.mk (-1) [], T.mk 1 []]) (T.mk (-1) [])) : Int) == (3 : Int))) && ((((leastO 5).lcmp (T.mk 3 [T.mk (-1) [], T.mk (-2) []]) (T.mk 3 [T.mk (-2) [], T.mk (-1) []])) : Int) == (0 : Int)))), .yes (c := ((((((leastO 5).lcmp (T.mk 4 [T.mk (-1) []]) (T.mk 3 [T.mk (-1) [], T.mk (-1) []])) : Int) == (3 : Int)) && ((((leastO 5).lcmp (T.mk 3 [T.mk (-1) [], T.mk 1 []]) (T.mk (-1) [])) : Int) == (3 : Int))) && ((((leastO 5).lcmp (T.mk 3 [T.mk (-1) [], T.mk (-2) []]) (T.mk 3 [T.mk (-2) [], T.mk (-1) []])) : Int) == (0 : Int)))) (d := true) rfl (fun v w h => h), fun h w => optUndef h, fun zβ za zw zc => ?_⟩, ?_⟩
    · exact eql_30 rfl ((show za.eval (.tmp 53) = za.tmps.getD 53 undef from rfl).trans (optVal (zc.dep 42 53 (by kernel_rfl)) rfl zβ)) (zc.kn.ev rfl) ⟨_, rfl, Below.refl _ _, optDef zβ rfl⟩
    refine ⟨⟨true, .none rfl, fun h w => optUndef h, fun zβ za zw zc => ?_⟩, ?_⟩
    · exact wp_and rfl ((show za.eval (.tmp 44) = za.tmps.getD 44 undef from rfl).trans (optVal (zc.dep 33 44 (by kernel_rfl)) rfl rfl)) (fun hp => ((show za.eval (.tmp 54) = za.tmps.getD 54 undef from rfl).trans (optVal (zc.dep 43 54 (by kernel_rfl)) rfl (bMk zβ hp)))) ⟨_, rfl, Below.refl _ _, optDef zβ rfl⟩
    refine ⟨⟨true, .none rfl, fun h w => optUndef h, fun zβ za zw zc => ?_⟩, ?_⟩
    · exact wp_move rfl ((show za.eval (.tmp 55) = za.tmps.getD 55 undef from rfl).trans (optVal (zc.dep 44 55 (by kernel_rfl)) rfl rfl)) ⟨_, rfl, Below.refl _ _, optDef zβ rfl⟩
    refine ⟨⟨(true && (((((((leastO 5).lcmp (T.mk 4 [T.mk (-1) []]) (T.mk 3 [T.mk (-1) [], T.mk (-1) []])) : Int) == (3 : Int)) && ((((leastO 5).lcmp (T.mk 3 [T.mk (-1) [], T.mk 1 []]) (T.mk (-1) [])) : Int) == (3 : Int))) && ((((leastO 5).lcmp (T.mk 3 [T.mk (-1) [], T.mk (-2) []]) (T.mk 3 [T.mk (-2) [], T.mk (-1) []])) : Int) == (0 : Int))) && ((((leastO 5).lcmp (T.mk 4 [T.mk 1 []]) (T.mk 3 [T.mk 2 [], T.mk 2 []])) : Int) == (3 : Int)))), .yes (c := (((((((leastO 5).lcmp (T.mk 4 [T.mk (-1) []]) (T.mk 3 [T.mk (-1) [], T.mk (-1) []])) : Int) == (3 : Int)) && ((((leastO 5).lcmp (T.mk 3 [T.mk (-1) [], T.mk 1 []]) (T.mk (-1) [])) : Int) == (3 : Int))) && ((((leastO 5).lcmp (T.mk 3 [T.mk (-1) [], T.mk (-2) []]) (T.mk 3 [T.mk (-2) [], T.mk (-1) []])) : Int) == (0 : Int))) && ((((leastO 5).lcmp (T.mk 4 [T.mk 1 []]) (T.mk 3 [T.mk 2 [], T.mk 2 []])) : Int) == (3 : Int)))) (d := true) rfl (fun v w h => h), fun h w => optUndef h, fun zβ za zw zc => ?_⟩, ?_⟩
    · exact ld_24 rfl (zc.kn.ev rfl) (bkeeps zc.below _ _ ((hB125.cell 0).trans rfl)) (bkeeps zc.below _ _ ((hB125.cell 1).trans rfl)) (bkeeps zc.below _ _ ((hB125.cell 2).trans rfl)) (bkeeps zc.below _ _ ((hB125.cell 3).trans rfl)) ⟨_, rfl, Below.refl _ _, optDef zβ rfl⟩
    refine ⟨⟨(true && (((((((leastO 5).lcmp (T.mk 4 [T.mk (-1) []]) (T.mk 3 [T.mk (-1) [], T.mk (-1) []])) : Int) == (3 : Int)) && ((((leastO 5).lcmp (T.mk 3 [T.mk (-1) [], T.mk 1 []]) (T.mk (-1) [])) : Int) == (3 : Int))) && ((((leastO 5).lcmp (T.mk 3 [T.mk (-1) [], T.mk (-2) []]) (T.mk 3 [T.mk (-2) [], T.mk (-1) []])) : Int) == (0 : Int))) && ((((leastO 5).lcmp (T.mk 4 [T.mk 1 []]) (T.mk 3 [T.mk 2 [], T.mk 2 []])) : Int) == (3 : Int)))), .yes (c := (((((((leastO 5).lcmp (T.mk 4 [T.mk (-1) []]) (T.mk 3 [T.mk (-1) [], T.mk (-1) []])) : Int) == (3 : Int)) && ((((leastO 5).lcmp (T.mk 3 [T.mk (-1) [], T.mk 1 []]) (T.mk (-1) [])) : Int) == (3 : Int))) && ((((leastO 5).lcmp (T.mk 3 [T.mk (-1) [], T.mk (-2) []]) (T.mk 3 [T.mk (-2) [], T.mk (-1) []])) : Int) == (0 : Int))) && ((((leastO 5).lcmp (T.mk 4 [T.mk 1 []]) (T.mk 3 [T.mk 2 [], T.mk 2 []])) : Int) == (3 : Int)))) (d := true) rfl (fun v w h => h), fun h w => optUndef h, fun zβ za zw zc => ?_⟩, ?_⟩
    · exact ld_27 rfl (zc.kn.ev rfl) (bkeeps zc.below _ _ ((hB128.cell 0).trans rfl)) (bkeeps zc.below _ _ ((hB128.cell 1).trans rfl)) ⟨_, rfl, Below.refl _ _, optDef zβ rfl⟩
    refine ⟨⟨(true && (((((((leastO 5).lcmp (T.mk 4 [T.mk (-1) []]) (T.mk 3 [T.mk (-1) [], T.mk (-1) []])) : Int) == (3 : Int)) && ((((leastO 5).lcmp (T.mk 3 [T.mk (-1) [], T.mk 1 []]) (T.mk (-1) [])) : Int) == (3 : Int))) && ((((leastO 5).lcmp (T.mk 3 [T.mk (-1) [], T.mk (-2) []]) (T.mk 3 [T.mk (-2) [], T.mk (-1) []])) : Int) == (0 : Int))) && ((((leastO 5).lcmp (T.mk 4 [T.mk 1 []]) (T.mk 3 [T.mk 2 [], T.mk 2 []])) : Int) == (3 : Int)))), .yes (c := (((((((leastO 5).lcmp (T.mk 4 [T.mk (-1) []]) (T.mk 3 [T.mk (-1) [], T.mk (-1) []])) : Int) == (3 : Int)) && ((((leastO 5).lcmp (T.mk 3 [T.mk (-1) [], T.mk 1 []]) (T.mk (-1) [])) : Int) == (3 : Int))) && ((((leastO 5).lcmp (T.mk 3 [T.mk (-1) [], T.mk (-2) []]) (T.mk 3 [T.mk (-2) [], T.mk (-1) []])) : Int) == (0 : Int))) && ((((leastO 5).lcmp (T.mk 4 [T.mk 1 []]) (T.mk 3 [T.mk 2 [], T.mk 2 []])) : Int) == (3 : Int)))) (d := true) rfl (fun v w h => h), fun h w => optUndef h, fun zβ za zw zc => ?_⟩, ?_⟩
    · exact ld_27 rfl (zc.kn.ev rfl) (bkeeps zc.below _ _ ((hB121.cell 0).trans rfl)) (bkeeps zc.below _ _ ((hB121.cell 1).trans rfl)) ⟨_, rfl, Below.refl _ _, optDef zβ rfl⟩
    refine ⟨⟨(true && (((((((leastO 5).lcmp (T.mk 4 [T.mk (-1) []]) (T.mk 3 [T.mk (-1) [], T.mk (-1) []])) : Int) == (3 : Int)) && ((((leastO 5).lcmp (T.mk 3 [T.mk (-1) [], T.mk 1 []]) (T.mk (-1) [])) : Int) == (3 : Int))) && ((((leastO 5).lcmp (T.mk 3 [T.mk (-1) [], T.mk (-2) []]) (T.mk 3 [T.mk (-2) [], T.mk (-1) []])) : Int) == (0 : Int))) && ((((leastO 5).lcmp (T.mk 4 [T.mk 1 []]) (T.mk 3 [T.mk 2 [], T.mk 2 []])) : Int) == (3 : Int)))), .yes (c := (((((((leastO 5).lcmp (T.mk 4 [T.mk (-1) []]) (T.mk 3 [T.mk (-1) [], T.mk (-1) []])) : Int) == (3 : Int)) && ((((leastO 5).lcmp (T.mk 3 [T.mk (-1) [], T.mk 1 []]) (T.mk (-1) [])) : Int) == (3 : Int))) && ((((leastO 5).lcmp (T.mk 3 [T.mk (-1) [], T.mk (-2) []]) (T.mk 3 [T.mk (-2) [], T.mk (-1) []])) : Int) == (0 : Int))) && ((((leastO 5).lcmp (T.mk 4 [T.mk 1 []]) (T.mk 3 [T.mk 2 [], T.mk 2 []])) : Int) == (3 : Int)))) (d := true) rfl (fun v w h => h), fun h w => optUndef h, fun zβ za zw zc => ?_⟩, ?_⟩
    · exact row_25_2 rfl ((show za.eval (.tmp 58) = za.tmps.getD 58 undef from rfl).trans (optVal (zc.dep 47 58 (by kernel_rfl)) rfl zβ)) ((show za.eval (.tmp 59) = za.tmps.getD 59 undef from rfl).trans (optVal (zc.dep 48 59 (by kernel_rfl)) rfl zβ)) ⟨_, rfl, balloc _ _, optDef zβ (ts2 (isT0 (i64_small (by decide))) (isT0 (i64_small (by decide))))⟩
    refine ⟨⟨(true && (((((((leastO 5).lcmp (T.mk 4 [T.mk (-1) []]) (T.mk 3 [T.mk (-1) [], T.mk (-1) []])) : Int) == (3 : Int)) && ((((leastO 5).lcmp (T.mk 3 [T.mk (-1) [], T.mk 1 []]) (T.mk (-1) [])) : Int) == (3 : Int))) && ((((leastO 5).lcmp (T.mk 3 [T.mk (-1) [], T.mk (-2) []]) (T.mk 3 [T.mk (-2) [], T.mk (-1) []])) : Int) == (0 : Int))) && ((((leastO 5).lcmp (T.mk 4 [T.mk 1 []]) (T.mk 3 [T.mk 2 [], T.mk 2 []])) : Int) == (3 : Int)))), .yes (c := (((((((leastO 5).lcmp (T.mk 4 [T.mk (-1) []]) (T.mk 3 [T.mk (-1) [], T.mk (-1) []])) : Int) == (3 : Int)) && ((((leastO 5).lcmp (T.mk 3 [T.mk (-1) [], T.mk 1 []]) (T.mk (-1) [])) : Int) == (3 : Int))) && ((((leastO 5).lcmp (T.mk 3 [T.mk (-1) [], T.mk (-2) []]) (T.mk 3 [T.mk (-2) [], T.mk (-1) []])) : Int) == (0 : Int))) && ((((leastO 5).lcmp (T.mk 4 [T.mk 1 []]) (T.mk 3 [T.mk 2 [], T.mk 2 []])) : Int) == (3 : Int)))) (d := true) rfl (fun v w h => h), fun h w => optUndef h, fun zβ za zw zc => ?_⟩, ?_⟩
    · exact wp_call (by kernel_rfl) rfl (hv2 (zc.kn.ev rfl) (show za.eval (.tmp 60) = za.tmps.getD 60 undef from rfl)) (of_ts (i64_small (by decide)) (optMem (zc.dep 49 60 (by kernel_rfl)) rfl zβ)) (fun v w' h => ⟨v, rfl, h.2, optDef zβ h.1⟩)
    refine ⟨⟨(true && (((((((leastO 5).lcmp (T.mk 4 [T.mk (-1) []]) (T.mk 3 [T.mk (-1) [], T.mk (-1) []])) : Int) == (3 : Int)) && ((((leastO 5).lcmp (T.mk 3 [T.mk (-1) [], T.mk 1 []]) (T.mk (-1) [])) : Int) == (3 : Int))) && ((((leastO 5).lcmp (T.mk 3 [T.mk (-1) [], T.mk (-2) []]) (T.mk 3 [T.mk (-2) [], T.mk (-1) []])) : Int) == (0 : Int))) && ((((leastO 5).lcmp (T.mk 4 [T.mk 1 []]) (T.mk 3 [T.mk 2 [], T.mk 2 []])) : Int) == (3 : Int)))), .yes (c := (((((((leastO 5).lcmp (T.mk 4 [T.mk (-1) []]) (T.mk 3 [T.mk (-1) [], T.mk (-1) []])) : Int) == (3 : Int)) && ((((leastO 5).lcmp (T.mk 3 [T.mk (-1) [], T.mk 1 []]) (T.mk (-1) [])) : Int) == (3 : Int))) && ((((leastO 5).lcmp (T.mk 3 [T.mk (-1) [], T.mk (-2) []]) (T.mk 3 [T.mk (-2) [], T.mk (-1) []])) : Int) == (0 : Int))) && ((((leastO 5).lcmp (T.mk 4 [T.mk 1 []]) (T.mk 3 [T.mk 2 [], T.mk 2 []])) : Int) == (3 : Int)))) (d := true) rfl (fun v w h => h), fun h w => optUndef h, fun zβ za zw zc => ?_⟩, ?_⟩
    · exact ld_27 rfl (zc.kn.ev rfl) (bkeeps zc.below _ _ ((hB121.cell 0).trans rfl)) (bkeeps zc.below _ _ ((hB121.cell 1).trans rfl)) ⟨_, rfl, Below.refl _ _, optDef zβ rfl⟩
    refine ⟨⟨(true && (((((((leastO 5).lcmp (T.mk 4 [T.mk (-1) []]) (T.mk 3 [T.mk (-1) [], T.mk (-1) []])) : Int) == (3 : Int)) && ((((leastO 5).lcmp (T.mk 3 [T.mk (-1) [], T.mk 1 []]) (T.mk (-1) [])) : Int) == (3 : Int))) && ((((leastO 5).lcmp (T.mk 3 [T.mk (-1) [], T.mk (-2) []]) (T.mk 3 [T.mk (-2) [], T.mk (-1) []])) : Int) == (0 : Int))) && ((((leastO 5).lcmp (T.mk 4 [T.mk 1 []]) (T.mk 3 [T.mk 2 [], T.mk 2 []])) : Int) == (3 : Int)))), .yes (c := (((((((leastO 5).lcmp (T.mk 4 [T.mk (-1) []]) (T.mk 3 [T.mk (-1) [], T.mk (-1) []])) : Int) == (3 : Int)) && ((((leastO 5).lcmp (T.mk 3 [T.mk (-1) [], T.mk 1 []]) (T.mk (-1) [])) : Int) == (3 : Int))) && ((((leastO 5).lcmp (T.mk 3 [T.mk (-1) [], T.mk (-2) []]) (T.mk 3 [T.mk (-2) [], T.mk (-1) []])) : Int) == (0 : Int))) && ((((leastO 5).lcmp (T.mk 4 [T.mk 1 []]) (T.mk 3 [T.mk 2 [], T.mk 2 []])) : Int) == (3 : Int)))) (d := true) rfl (fun v w h => h), fun h w => optUndef h, fun zβ za zw zc => ?_⟩, ?_⟩
    · exact ld_27 rfl (zc.kn.ev rfl) (bkeeps zc.below _ _ ((hB128.cell 0).trans rfl)) (bkeeps zc.below _ _ ((hB128.cell 1).trans rfl)) ⟨_, rfl, Below.refl _ _, optDef zβ rfl⟩
    refine ⟨⟨(true && (((((((leastO 5).lcmp (T.mk 4 [T.mk (-1) []]) (T.mk 3 [T.mk (-1) [], T.mk (-1) []])) : Int) == (3 : Int)) && ((((leastO 5).lcmp (T.mk 3 [T.mk (-1) [], T.mk 1 []]) (T.mk (-1) [])) : Int) == (3 : Int))) && ((((leastO 5).lcmp (T.mk 3 [T.mk (-1) [], T.mk (-2) []]) (T.mk 3 [T.mk (-2) [], T.mk (-1) []])) : Int) == (0 : Int))) && ((((leastO 5).lcmp (T.mk 4 [T.mk 1 []]) (T.mk 3 [T.mk 2 [], T.mk 2 []])) : Int) == (3 : Int)))), .yes (c := (((((((leastO 5).lcmp (T.mk 4 [T.mk (-1) []]) (T.mk 3 [T.mk (-1) [], T.mk (-1) []])) : Int) == (3 : Int)) && ((((leastO 5).lcmp (T.mk 3 [T.mk (-1) [], T.mk 1 []]) (T.mk (-1) [])) : Int) == (3 : Int))) && ((((leastO 5).lcmp (T.mk 3 [T.mk (-1) [], T.mk (-2) []]) (T.mk 3 [T.mk (-2) [], T.mk (-1) []])) : Int) == (0 : Int))) && ((((leastO 5).lcmp (T.mk 4 [T.mk 1 []]) (T.mk 3 [T.mk 2 [], T.mk 2 []])) : Int) == (3 : Int)))) (d := true) rfl (fun v w h => h), fun h w => optUndef h, fun zβ za zw zc => ?_⟩, ?_⟩
    · exact row_25_2 rfl ((show za.eval (.tmp 62) = za.tmps.getD 62 undef from rfl).trans (optVal (zc.dep 51 62 (by kernel_rfl)) rfl zβ)) ((show za.eval (.tmp 63) = za.tmps.getD 63 undef from rfl).trans (optVal (zc.dep 52 63 (by kernel_rfl)) rfl zβ)) ⟨_, rfl, balloc _ _, optDef zβ (ts2 (isT0 (i64_small (by decide))) (isT0 (i64_small (by decide))))⟩
    refine ⟨⟨(true && (((((((leastO 5).lcmp (T.mk 4 [T.mk (-1) []]) (T.mk 3 [T.mk (-1) [], T.mk (-1) []])) : Int) == (3 : Int)) && ((((leastO 5).lcmp (T.mk 3 [T.mk (-1) [], T.mk 1 []]) (T.mk (-1) [])) : Int) == (3 : Int))) && ((((leastO 5).lcmp (T.mk 3 [T.mk (-1) [], T.mk (-2) []]) (T.mk 3 [T.mk (-2) [], T.mk (-1) []])) : Int) == (0 : Int))) && ((((leastO 5).lcmp (T.mk 4 [T.mk 1 []]) (T.mk 3 [T.mk 2 [], T.mk 2 []])) : Int) == (3 : Int)))), .yes (c := (((((((leastO 5).lcmp (T.mk 4 [T.mk (-1) []]) (T.mk 3 [T.mk (-1) [], T.mk (-1) []])) : Int) == (3 : Int)) && ((((leastO 5).lcmp (T.mk 3 [T.mk (-1) [], T.mk 1 []]) (T.mk (-1) [])) : Int) == (3 : Int))) && ((((leastO 5).lcmp (T.mk 3 [T.mk (-1) [], T.mk (-2) []]) (T.mk 3 [T.mk (-2) [], T.mk (-1) []])) : Int) == (0 : Int))) && ((((leastO 5).lcmp (T.mk 4 [T.mk 1 []]) (T.mk 3 [T.mk 2 [], T.mk 2 []])) : Int) == (3 : Int)))) (d := true) rfl (fun v w h => h), fun h w => optUndef h, fun zβ za zw zc => ?_⟩, ?_⟩
    · exact wp_call (by kernel_rfl) rfl (hv2 (zc.kn.ev rfl) (show za.eval (.tmp 64) = za.tmps.getD 64 undef from rfl)) (of_ts (i64_small (by decide)) (optMem (zc.dep 53 64 (by kernel_rfl)) rfl zβ)) (fun v w' h => ⟨v, rfl, h.2, optDef zβ h.1⟩)
    refine ⟨⟨(true && (((((((leastO 5).lcmp (T.mk 4 [T.mk (-1) []]) (T.mk 3 [T.mk (-1) [], T.mk (-1) []])) : Int) == (3 : Int)) && ((((leastO 5).lcmp (T.mk 3 [T.mk (-1) [], T.mk 1 []]) (T.mk (-1) [])) : Int) == (3 : Int))) && ((((leastO 5).lcmp (T.mk 3 [T.mk (-1) [], T.mk (-2) []]) (T.mk 3 [T.mk (-2) [], T.mk (-1) []])) : Int) == (0 : Int))) && ((((leastO 5).lcmp (T.mk 4 [T.mk 1 []]) (T.mk 3 [T.mk 2 [], T.mk 2 []])) : Int) == (3 : Int)))), .yes (c := (((((((leastO 5).lcmp (T.mk 4 [T.mk (-1) []]) (T.mk 3 [T.mk (-1) [], T.mk (-1) []])) : Int) == (3 : Int)) && ((((leastO 5).lcmp (T.mk 3 [T.mk (-1) [], T.mk 1 []]) (T.mk (-1) [])) : Int) == (3 : Int))) && ((((leastO 5).lcmp (T.mk 3 [T.mk (-1) [], T.mk (-2) []]) (T.mk 3 [T.mk (-2) [], T.mk (-1) []])) : Int) == (0 : Int))) && ((((leastO 5).lcmp (T.mk 4 [T.mk 1 []]) (T.mk 3 [T.mk 2 [], T.mk 2 []])) : Int) == (3 : Int)))) (d := true) rfl (fun v w h => h), fun h w => optUndef h, fun zβ za zw zc => ?_⟩, ?_⟩
    · exact wp_call (by kernel_rfl) rfl (hv3 ((show za.eval (.tmp 57) = za.tmps.getD 57 undef from rfl).trans (optVal (zc.dep 46 57 (by kernel_rfl)) rfl zβ)) (show za.eval (.tmp 61) = za.tmps.getD 61 undef from rfl) (show za.eval (.tmp 65) = za.tmps.getD 65 undef from rfl)) (lcmp_any (leastO 5) (T.mk 3 [T.mk 1 [], T.mk 2 []]) (T.mk 3 [T.mk 2 [], T.mk 1 []]) _ _ _ _ (by decide) (by decide) (hO.below (bstep hb124 zc.below)) (optMem (zc.dep 50 61 (by kernel_rfl)) rfl zβ) (optMem (zc.dep 54 65 (by kernel_rfl)) rfl zβ)) (fun v w' h => ⟨v, rfl, h.2, optDef zβ h.1⟩)
    refine ⟨⟨(true && (((((((leastO 5).lcmp (T.mk 4 [T.mk (-1) []]) (T.mk 3 [T.mk (-1) [], T.mk (-1) []])) : Int) == (3 : Int)) && ((((leastO 5).lcmp (T.mk 3 [T.mk (-1) [], T.mk 1 []]) (T.mk (-1) [])) : Int) == (3 : Int))) && ((((leastO 5).lcmp (T.mk 3 [T.mk (-1) [], T.mk (-2) []]) (T.mk 3 [T.mk (-2) [], T.mk (-1) []])) : Int) == (0 : Int))) && ((((leastO 5).lcmp (T.mk 4 [T.mk 1 []]) (T.mk 3 [T.mk 2 [], T.mk 2 []])) : Int) == (3 : Int)))), .yes (c := (((((((leastO 5).lcmp (T.mk 4 [T.mk (-1) []]) (T.mk 3 [T.mk (-1) [], T.mk (-1) []])) : Int) == (3 : Int)) && ((((leastO 5).lcmp (T.mk 3 [T.mk (-1) [], T.mk 1 []]) (T.mk (-1) [])) : Int) == (3 : Int))) && ((((leastO 5).lcmp (T.mk 3 [T.mk (-1) [], T.mk (-2) []]) (T.mk 3 [T.mk (-2) [], T.mk (-1) []])) : Int) == (0 : Int))) && ((((leastO 5).lcmp (T.mk 4 [T.mk 1 []]) (T.mk 3 [T.mk 2 [], T.mk 2 []])) : Int) == (3 : Int)))) (d := true) rfl (fun v w h => h), fun h w => optUndef h, fun zβ za zw zc => ?_⟩, ?_⟩
    · exact eql_30 rfl ((show za.eval (.tmp 66) = za.tmps.getD 66 undef from rfl).trans (optVal (zc.dep 55 66 (by kernel_rfl)) rfl zβ)) (zc.kn.ev rfl) ⟨_, rfl, Below.refl _ _, optDef zβ rfl⟩
    refine ⟨⟨true, .none rfl, fun h w => optUndef h, fun zβ za zw zc => ?_⟩, ?_⟩
    · exact wp_and rfl ((show za.eval (.tmp 56) = za.tmps.getD 56 undef from rfl).trans (optVal (zc.dep 45 56 (by kernel_rfl)) rfl rfl)) (fun hp => ((show za.eval (.tmp 67) = za.tmps.getD 67 undef from rfl).trans (optVal (zc.dep 56 67 (by kernel_rfl)) rfl (bMk zβ hp)))) ⟨_, rfl, Below.refl _ _, optDef zβ rfl⟩
    refine ⟨⟨true, .none rfl, fun h w => optUndef h, fun zβ za zw zc => ?_⟩, ?_⟩
    · exact wp_move rfl ((show za.eval (.tmp 68) = za.tmps.getD 68 undef from rfl).trans (optVal (zc.dep 57 68 (by kernel_rfl)) rfl rfl)) ⟨_, rfl, Below.refl _ _, optDef zβ rfl⟩
    refine ⟨⟨(true && ((((((((leastO 5).lcmp (T.mk 4 [T.mk (-1) []]) (T.mk 3 [T.mk (-1) [], T.mk (-1) []])) : Int) == (3 : Int)) && ((((leastO 5).lcmp (T.mk 3 [T.mk (-1) [], T.mk 1 []]) (T.mk (-1) [])) : Int) == (3 : Int))) && ((((leastO 5).lcmp (T.mk 3 [T.mk (-1) [], T.mk (-2) []]) (T.mk 3 [T.mk (-2) [], T.mk (-1) []])) : Int) == (0 : Int))) && ((((leastO 5).lcmp (T.mk 4 [T.mk 1 []]) (T.mk 3 [T.mk 2 [], T.mk 2 []])) : Int) == (3 : Int))) && ((((leastO 5).lcmp (T.mk 3 [T.mk 1 [], T.mk 2 []]) (T.mk 3 [T.mk 2 [], T.mk 1 []])) : Int) == (1 : Int)))), .yes (c := ((((((((leastO 5).lcmp (T.mk 4 [T.mk (-1) []]) (T.mk 3 [T.mk (-1) [], T.mk (-1) []])) : Int) == (3 : Int)) && ((((leastO 5).lcmp (T.mk 3 [T.mk (-1) [], T.mk 1 []]) (T.mk (-1) [])) : Int) == (3 : Int))) && ((((leastO 5).lcmp (T.mk 3 [T.mk (-1) [], T.mk (-2) []]) (T.mk 3 [T.mk (-2) [], T.mk (-1) []])) : Int) == (0 : Int))) && ((((leastO 5).lcmp (T.mk 4 [T.mk 1 []]) (T.mk 3 [T.mk 2 [], T.mk 2 []])) : Int) == (3 : Int))) && ((((leastO 5).lcmp (T.mk 3 [T.mk 1 [], T.mk 2 []]) (T.mk 3 [T.mk 2 [], T.mk 1 []])) : Int) == (1 : Int)))) (d := true) rfl (fun v w h => h), fun h w => optUndef h, fun zβ za zw zc => ?_⟩, ?_⟩
    · exact ld_24 rfl (zc.kn.ev rfl) (bkeeps zc.below _ _ ((hB125.cell 0).trans rfl)) (bkeeps zc.below _ _ ((hB125.cell 1).trans rfl)) (bkeeps zc.below _ _ ((hB125.cell 2).trans rfl)) (bkeeps zc.below _ _ ((hB125.cell 3).trans rfl)) ⟨_, rfl, Below.refl _ _, optDef zβ rfl⟩
    refine ⟨⟨(true && ((((((((leastO 5).lcmp (T.mk 4 [T.mk (-1) []]) (T.mk 3 [T.mk (-1) [], T.mk (-1) []])) : Int) == (3 : Int)) && ((((leastO 5).lcmp (T.mk 3 [T.mk (-1) [], T.mk 1 []]) (T.mk (-1) [])) : Int) == (3 : Int))) && ((((leastO 5).lcmp (T.mk 3 [T.mk (-1) [], T.mk (-2) []]) (T.mk 3 [T.mk (-2) [], T.mk (-1) []])) : Int) == (0 : Int))) && ((((leastO 5).lcmp (T.mk 4 [T.mk 1 []]) (T.mk 3 [T.mk 2 [], T.mk 2 []])) : Int) == (3 : Int))) && ((((leastO 5).lcmp (T.mk 3 [T.mk 1 [], T.mk 2 []]) (T.mk 3 [T.mk 2 [], T.mk 1 []])) : Int) == (1 : Int)))), .yes (c := ((((((((leastO 5).lcmp (T.mk 4 [T.mk (-1) []]) (T.mk 3 [T.mk (-1) [], T.mk (-1) []])) : Int) == (3 : Int)) && ((((leastO 5).lcmp (T.mk 3 [T.mk (-1) [], T.mk 1 []]) (T.mk (-1) [])) : Int) == (3 : Int))) && ((((leastO 5).lcmp (T.mk 3 [T.mk (-1) [], T.mk (-2) []]) (T.mk 3 [T.mk (-2) [], T.mk (-1) []])) : Int) == (0 : Int))) && ((((leastO 5).lcmp (T.mk 4 [T.mk 1 []]) (T.mk 3 [T.mk 2 [], T.mk 2 []])) : Int) == (3 : Int))) && ((((leastO 5).lcmp (T.mk 3 [T.mk 1 [], T.mk 2 []]) (T.mk 3 [T.mk 2 [], T.mk 1 []])) : Int) == (1 : Int)))) (d := true) rfl (fun v w h => h), fun h w => optUndef h, fun zβ za zw zc => ?_⟩, ?_⟩
    · exact ld_27 rfl (zc.kn.ev rfl) (bkeeps zc.below _ _ ((hB126.cell 0).trans rfl)) (bkeeps zc.below _ _ ((hB126.cell 1).trans rfl)) ⟨_, rfl, Below.refl _ _, optDef zβ rfl⟩
    refine ⟨⟨(true && ((((((((leastO 5).lcmp (T.mk 4 [T.mk (-1) []]) (T.mk 3 [T.mk (-1) [], T.mk (-1) []])) : Int) == (3 : Int)) && ((((leastO 5).lcmp (T.mk 3 [T.mk (-1) [], T.mk 1 []]) (T.mk (-1) [])) : Int) == (3 : Int))) && ((((leastO 5).lcmp (T.mk 3 [T.mk (-1) [], T.mk (-2) []]) (T.mk 3 [T.mk (-2) [], T.mk (-1) []])) : Int) == (0 : Int))) && ((((leastO 5).lcmp (T.mk 4 [T.mk 1 []]) (T.mk 3 [T.mk 2 [], T.mk 2 []])) : Int) == (3 : Int))) && ((((leastO 5).lcmp (T.mk 3 [T.mk 1 [], T.mk 2 []]) (T.mk 3 [T.mk 2 [], T.mk 1 []])) : Int) == (1 : Int)))), .yes (c := ((((((((leastO 5).lcmp (T.mk 4 [T.mk (-1) []]) (T.mk 3 [T.mk (-1) [], T.mk (-1) []])) : Int) == (3 : Int)) && ((((leastO 5).lcmp (T.mk 3 [T.mk (-1) [], T.mk 1 []]) (T.mk (-1) [])) : Int) == (3 : Int))) && ((((leastO 5).lcmp (T.mk 3 [T.mk (-1) [], T.mk (-2) []]) (T.mk 3 [T.mk (-2) [], T.mk (-1) []])) : Int) == (0 : Int))) && ((((leastO 5).lcmp (T.mk 4 [T.mk 1 []]) (T.mk 3 [T.mk 2 [], T.mk 2 []])) : Int) == (3 : Int))) && ((((leastO 5).lcmp (T.mk 3 [T.mk 1 [], T.mk 2 []]) (T.mk 3 [T.mk 2 [], T.mk 1 []])) : Int) == (1 : Int)))) (d := true) rfl (fun v w h => h), fun h w => optUndef h, fun zβ za zw zc => ?_⟩, ?_⟩
    · exact ld_27 rfl (zc.kn.ev rfl) (bkeeps zc.below _ _ ((hB127.cell 0).trans rfl)) (bkeeps zc.below _ _ ((hB127.cell 1).trans rfl)) ⟨_, rfl, Below.refl _ _, optDef zβ rfl⟩
    refine ⟨⟨(true && ((((((((leastO 5).lcmp (T.mk 4 [T.mk (-1) []]) (T.mk 3 [T.mk (-1) [], T.mk (-1) []])) : Int) == (3 : Int)) && ((((leastO 5).lcmp (T.mk 3 [T.mk (-1) [], T.mk 1 []]) (T.mk (-1) [])) : Int) == (3 : Int))) && ((((leastO 5).lcmp (T.mk 3 [T.mk (-1) [], T.mk (-2) []]) (T.mk 3 [T.mk (-2) [], T.mk (-1) []])) : Int) == (0 : Int))) && ((((leastO 5).lcmp (T.mk 4 [T.mk 1 []]) (T.mk 3 [T.mk 2 [], T.mk 2 []])) : Int) == (3 : Int))) && ((((leastO 5).lcmp (T.mk 3 [T.mk 1 [], T.mk 2 []]) (T.mk 3 [T.mk 2 [], T.mk 1 []])) : Int) == (1 : Int)))), .yes (c := ((((((((leastO 5).lcmp (T.mk 4 [T.mk (-1) []]) (T.mk 3 [T.mk (-1) [], T.mk (-1) []])) : Int) == (3 : Int)) && ((((leastO 5).lcmp (T.mk 3 [T.mk (-1) [], T.mk 1 []]) (T.mk (-1) [])) : Int) == (3 : Int))) && ((((leastO 5).lcmp (T.mk 3 [T.mk (-1) [], T.mk (-2) []]) (T.mk 3 [T.mk (-2) [], T.mk (-1) []])) : Int) == (0 : Int))) && ((((leastO 5).lcmp (T.mk 4 [T.mk 1 []]) (T.mk 3 [T.mk 2 [], T.mk 2 []])) : Int) == (3 : Int))) && ((((leastO 5).lcmp (T.mk 3 [T.mk 1 [], T.mk 2 []]) (T.mk 3 [T.mk 2 [], T.mk 1 []])) : Int) == (1 : Int)))) (d := true) rfl (fun v w h => h), fun h w => optUndef h, fun zβ za zw zc => ?_⟩, ?_⟩
    · exact wp_call (by kernel_rfl) rfl (hv3 ((show za.eval (.tmp 70) = za.tmps.getD 70 undef from rfl).trans (optVal (zc.dep 59 70 (by kernel_rfl)) rfl zβ)) ((show za.eval (.tmp 71) = za.tmps.getD 71 undef from rfl).trans (optVal (zc.dep 60 71 (by kernel_rfl)) rfl zβ)) ((show za.eval (.tmp 72) = za.tmps.getD 72 undef from rfl).trans (optVal (zc.dep 61 72 (by kernel_rfl)) rfl zβ))) (lcmp_any (leastO 5) (T.mk (-1) []) (T.mk (-2) []) _ _ _ _ (by decide) (by decide) (hO.below (bstep hb124 zc.below)) (isT0 (i64_small (by decide))) (isT0 (i64_small (by decide)))) (fun v w' h => ⟨v, rfl, h.2, optDef zβ h.1⟩)
    refine ⟨⟨(true && ((((((((leastO 5).lcmp (T.mk 4 [T.mk (-1) []]) (T.mk 3 [T.mk (-1) [], T.mk (-1) []])) : Int) == (3 : Int)) && ((((leastO 5).lcmp (T.mk 3 [T.mk (-1) [], T.mk 1 []]) (T.mk (-1) [])) : Int) == (3 : Int))) && ((((leastO 5).lcmp (T.mk 3 [T.mk (-1) [], T.mk (-2) []]) (T.mk 3 [T.mk (-2) [], T.mk (-1) []])) : Int) == (0 : Int))) && ((((leastO 5).lcmp (T.mk 4 [T.mk 1 []]) (T.mk 3 [T.mk 2 [], T.mk 2 []])) : Int) == (3 : Int))) && ((((leastO 5).lcmp (T.mk 3 [T.mk 1 [], T.mk 2 []]) (T.mk 3 [T.mk 2 [], T.mk 1 []])) : Int) == (1 : Int)))), .yes (c := ((((((((leastO 5).lcmp (T.mk 4 [T.mk (-1) []]) (T.mk 3 [T.mk (-1) [], T.mk (-1) []])) : Int) == (3 : Int)) && ((((leastO 5).lcmp (T.mk 3 [T.mk (-1) [], T.mk 1 []]) (T.mk (-1) [])) : Int) == (3 : Int))) && ((((leastO 5).lcmp (T.mk 3 [T.mk (-1) [], T.mk (-2) []]) (T.mk 3 [T.mk (-2) [], T.mk (-1) []])) : Int) == (0 : Int))) && ((((leastO 5).lcmp (T.mk 4 [T.mk 1 []]) (T.mk 3 [T.mk 2 [], T.mk 2 []])) : Int) == (3 : Int))) && ((((leastO 5).lcmp (T.mk 3 [T.mk 1 [], T.mk 2 []]) (T.mk 3 [T.mk 2 [], T.mk 1 []])) : Int) == (1 : Int)))) (d := true) rfl (fun v w h => h), fun h w => optUndef h, fun zβ za zw zc => ?_⟩, ?_⟩
    · exact eql_30 rfl ((show za.eval (.tmp 73) = za.tmps.getD 73 undef from rfl).trans (optVal (zc.dep 62 73 (by kernel_rfl)) rfl zβ)) (zc.kn.ev rfl) ⟨_, rfl, Below.refl _ _, optDef zβ rfl⟩
    refine ⟨⟨true, .none rfl, fun h w => optUndef h, fun zβ za zw zc => ?_⟩, ?_⟩
    · exact wp_and rfl ((show za.eval (.tmp 69) = za.tmps.getD 69 undef from rfl).trans (optVal (zc.dep 58 69 (by kernel_rfl)) rfl rfl)) (fun hp => ((show za.eval (.tmp 74) = za.tmps.getD 74 undef from rfl).trans (optVal (zc.dep 63 74 (by kernel_rfl)) rfl (bMk zβ hp)))) ⟨_, rfl, Below.refl _ _, optDef zβ rfl⟩
    refine ⟨⟨true, .none rfl, fun h w => optUndef h, fun zβ za zw zc => ?_⟩, ?_⟩
    · exact wp_assign rfl ((show za.eval (.tmp 75) = za.tmps.getD 75 undef from rfl).trans (optVal (zc.dep 64 75 (by kernel_rfl)) rfl rfl)) ⟨_, rfl, Below.refl _ _, optDef zβ rfl⟩
    exact trivial
  · intro za w129 zh hb130 zu
    have zh := zh.cons (d := 0) (v := .bool ((((((((((leastO 5).lcmp (T.mk 4 [T.mk (-1) []]) (T.mk 3 [T.mk (-1) [], T.mk (-1) []])) : Int) == (3 : Int)) && ((((leastO 5).lcmp (T.mk 3 [T.mk (-1) [], T.mk 1 []]) (T.mk (-1) [])) : Int) == (3 : Int))) && ((((leastO 5).lcmp (T.mk 3 [T.mk (-1) [], T.mk (-2) []]) (T.mk 3 [T.mk (-2) [], T.mk (-1) []])) : Int) == (0 : Int))) && ((((leastO 5).lcmp (T.mk 4 [T.mk 1 []]) (T.mk 3 [T.mk 2 [], T.mk 2 []])) : Int) == (3 : Int))) && ((((leastO 5).lcmp (T.mk 3 [T.mk 1 [], T.mk 2 []]) (T.mk 3 [T.mk 2 [], T.mk 1 []])) : Int) == (1 : Int))) && ((((leastO 5).lcmp (T.mk (-1) []) (T.mk (-2) [])) : Int) == (0 : Int))))) (optVal (zu 65 0 (by kernel_rfl)) rfl rfl)
    clear zu
    refine (show WE _ [(0, .bool ((((((((((leastO 5).lcmp (T.mk 4 [T.mk (-1) []]) (T.mk 3 [T.mk (-1) [], T.mk (-1) []])) : Int) == (3 : Int)) && ((((leastO 5).lcmp (T.mk 3 [T.mk (-1) [], T.mk 1 []]) (T.mk (-1) [])) : Int) == (3 : Int))) && ((((leastO 5).lcmp (T.mk 3 [T.mk (-1) [], T.mk (-2) []]) (T.mk 3 [T.mk (-2) [], T.mk (-1) []])) : Int) == (0 : Int))) && ((((leastO 5).lcmp (T.mk 4 [T.mk 1 []]) (T.mk 3 [T.mk 2 [], T.mk 2 []])) : Int) == (3 : Int))) && ((((leastO 5).lcmp (T.mk 3 [T.mk 1 [], T.mk 2 []]) (T.mk 3 [T.mk 2 [], T.mk 1 []])) : Int) == (1 : Int))) && ((((leastO 5).lcmp (T.mk (-1) []) (T.mk (-2) [])) : Int) == (0 : Int))))), (1, .pointer (some ⟨g3, 0, none⟩)), (2, .pointer (some ⟨g26, 0, none⟩)), (3, .pointer (some ⟨g38, 0, none⟩)), (4, .pointer (some ⟨g51, 0, none⟩)), (5, .pointer (some ⟨g65, 0, none⟩))] w129 _ .normal from ?_) za (zh.sub ⟨rfl, rfl, rfl, rfl, rfl, rfl, trivial⟩)
    refine WE.next ?_
    refine WC.ret ?_
    refine WE.ret1 rfl rfl ?_
    have hb131 : Below w.heap.size w w129 := (bstep hb123 hb130)
    exact ⟨_, rfl, congrArg Value.bool (by decide +kernel), hb131⟩

end Go.Proofs.Ytlkiabgpnboicaa
