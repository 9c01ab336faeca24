/- A term laid out in a row of its parts: the walks of the program and of the document. -/
import Derived.Test.YtlkiabgpnboicaaLay
import Derived.Test.YtlkiabgpnboicaaKOps
namespace Go.Proofs.Ytlkiabgpnboicaa
open Go.RowKit Go

theorem len_le_sizeL : ∀ l : List T, l.length ≤ T.sizeL l
  | [] => by simp
  | a :: r => by
    have := len_le_sizeL r
    have := T.size_eq a
    rw [T.sizeL, List.length_cons]; omega
theorem own_blk {w : World} {S : Nat → Prop} {e size b rc n : Nat} {xs : List Value} (h : Own w S e size (some ⟨b, 0, none⟩) rc n xs) : ∃ cur, Blk w b e cur ∧ n * size ≤ cur.size := by
  rcases h.1.2 with ⟨e1, _⟩ | ⟨g, cap, cur, e1, h1, hb, h2, h3, h4, h5⟩
  · cases e1
  · simp only [Value.slice.injEq, Option.some.injEq, Addr.mk.injEq, and_true, true_and] at e1
    obtain ⟨rfl, rfl⟩ := e1
    exact ⟨cur, hb, by rw [h4]; exact Nat.mul_le_mul_right _ h2⟩
theorem size_take_tget {l : List T} {k : Nat} (h : k < l.length) : T.sizeL (l.take k) + (tget l k).size ≤ T.sizeL l := by
  have h2 := T.sizeL_take_le l (k + 1)
  rw [sizeL_take_t h] at h2; exact h2

set_option maxRecDepth 100000 in
theorem parts_any (t : T) : ∀ (w0 w : World) (v : Value) (ra : Option Addr) (rc n bm lo : Nat) (xs : List Value), Below w0.heap.size w0 w → IsT w0 t v → Own w (fun g => g = bm ∧ g < lo) 86 3 ra rc n xs → lo ≤ w.heap.size → w0.heap.size ≤ bm → n + t.size ≤ 4294967296 →
    Calls Try.prog 36 #[v, .slice ra n rc] w (Ret (LayP 86 w0 w bm lo n xs t)) := by
  induction t using T.ind with
  | h f l ih =>
  intro w0 w v ra rc n bm lo xs hb0 hT hO hlo hbm hz
  have hT0 := hT
  obtain ⟨_, a, c, rfl, hc, hm, hl⟩ := hT
  unfold maxLen at hm
  rw [T.size] at hz
  have hll := len_le_sizeL l
  have hxl := own_len hO
  have hw0 := hb0.size
  refine Calls.walk (l := [.agg #[.int .i64 f, .slice a l.length c], .slice ra n rc]) Try.func36 rfl (by kernel_rfl) ?_
  refine WC.sub (K' := [(0, .agg #[.int .i64 f, .slice a l.length c]), (1, .slice ra n rc)]) ⟨rfl, rfl, trivial⟩ ?_
  refine WC.seq ?_
  refine WC.region ?_
  refine WL.step (post := NewBlk w 27 #[.int .i64 f, .slice a l.length c]) rfl rfl rfl (fun za zC zh zk => box_27 rfl (zh.ev rfl) (zk _ _ (newBlk _ _ _))) ?_
  rintro _ w1 ⟨g2, rfl, hg3, hB4, hb5, hz6⟩
  have hl7 : w0.heap.size ≤ g2 := by have z2 := (hb0).size; omega
  refine WL.val (.slice none 0 0) rfl rfl rfl (fun za zC zh zk => wp_assign rfl (zh.ev rfl) zk) ?_
  refine WL.nil (WE.sub (K' := [(0, .agg #[.int .i64 f, .slice a l.length c]), (1, .slice ra n rc), (2, .pointer (some ⟨g2, 0, none⟩)), (4, .slice none 0 0)]) ⟨rfl, rfl, rfl, rfl, trivial⟩ ?_)
  refine WE.next ?_
  refine WC.seq ?_
  refine WC.region ?_
  refine WL.val (.slice ra n rc) rfl rfl rfl (fun za zC zh zk => wp_move rfl (zh.ev rfl) zk) ?_
  refine WL.val (.int .i64 (((n : Nat) : Int))) rfl rfl rfl (fun za zC zh zk => len_71 rfl (zh.ev rfl) zk) ?_
  refine WL.val (.int .i64 (((n : Nat) : Int))) rfl rfl rfl (fun za zC zh zk => wp_assign rfl (zh.ev rfl) zk) ?_
  refine WL.nil (WE.sub (K' := [(0, .agg #[.int .i64 f, .slice a l.length c]), (1, .slice ra n rc), (2, .pointer (some ⟨g2, 0, none⟩)), (4, .slice none 0 0), (5, .int .i64 (((n : Nat) : Int)))]) ⟨rfl, rfl, rfl, rfl, rfl, trivial⟩ ?_)
  refine WE.next ?_
  refine WC.seq ?_
  refine WC.region ?_
  refine WL.val (.slice ra n rc) rfl rfl rfl (fun za zC zh zk => wp_move rfl (zh.ev rfl) zk) ?_
  refine WL.val (.agg #[.int .i64 f, .slice a l.length c]) rfl rfl rfl (fun za zC zh zk => ld_27 rfl (zh.ev rfl) ((hB4.cell 0).trans rfl) ((hB4.cell 1).trans rfl) zk) ?_
  refine WL.val (.agg #[.int .i64 f, .slice a l.length c, .slice none 0 0]) rfl rfl rfl (fun za zC zh zk => build_86_0 rfl (zh.ev rfl) zk) ?_
  refine WL.step (post := NewRow w1 86 #[.int .i64 f, .slice a l.length c, .slice none 0 0] 1) rfl rfl rfl (fun za zC zh zk => row_71_1 rfl (zh.ev rfl) (zk _ _ (newRow _ _ _ _))) ?_
  rintro _ w8 ⟨g9, rfl, hg10, hB11, hb12, hz13⟩
  have hl14 : g2 < g9 := by have z1 := hB4.lt; omega
  have hb15 : Below w0.heap.size w0 w1 := (bstep hb0 hb5)
  have hl16 : w0.heap.size ≤ g9 := by have z2 := (hb15).size; omega
  have hw17 : w.heap.size ≤ w8.heap.size := (Nat.le_trans hb5.size hb12.size)
  have hb19 : Below w.heap.size w w8 := (bstep hb5 hb12)
  have hO18 := hO.below hb19
  have hl20 : g2 < w8.heap.size := by have z1 := hB4.lt; have z2 := (hb12).size; omega
  have hl21 : g9 < w8.heap.size := by have z1 := hB11.lt; omega
  have hb23 : Below w0.heap.size w0 w8 := (bstep hb0 hb19)
  have hl22 : w0.heap.size ≤ w8.heap.size := (hb23).size
  refine WL.step (post := fun v w' => ∃ ra rc, v = .slice ra (n + 1) rc ∧ Own w' (fun g => (g = bm ∧ g < lo) ∨ g = w8.heap.size) 86 3 ra rc (n + 1) (xs ++ [.int .i64 f, .slice a l.length c, .slice none 0 0]) ∧ Chg (fun g => (g = bm ∧ g < lo) ∨ g = w8.heap.size) w8 w') rfl rfl rfl (fun za zC zh zk => app_71 (S := (fun g => (g = bm ∧ g < lo) ∨ g = w8.heap.size)) (xs := xs) (news := [.int .i64 f, .slice a l.length c, .slice none 0 0]) rfl (zh.ev rfl) (zh.ev rfl) (own_mono hO18 (fun b h => .inl h)) (SrcIs.ofBlk hB11) (by simp) (by simp [Value.oneCell']) (by omega) (by omega) (by omega) (fun ra rc w' h1 h2 => zk _ _ ⟨ra, rc, rfl, h1, h2⟩)) ?_
  rintro _ w24 ⟨ra25, rc26, rfl, hr27, hc28⟩
  have hB29 := hB4.below hb12
  have hb30 := chg_below hb23 hc28 (fun b hb => (by (try dsimp only at *); omega))
  have hB31 := chg_blk hB29 hc28 (by (try dsimp only at *); omega)
  have hB32 := chg_blk hB11 hc28 (by (try dsimp only at *); omega)
  obtain ⟨bb33, hS34, rfl, hlt35, hA36⟩ := own_pick hr27 (by omega)
  try dsimp only at hS34
  have hst37 : LaySt 86 w0 w.heap.size n xs f a c l bb33 rc26 none 0 0 0 [] 0 0 w24 := LaySt.start hA36 hlt35
  refine WL.val (.slice ((some ⟨bb33, 0, none⟩)) ((n + 1)) rc26) rfl rfl rfl (fun za zC zh zk => wp_assign rfl (zh.ev rfl) zk) ?_
  refine WL.nil (WE.sub (K' := [(0, .agg #[.int .i64 f, .slice a l.length c]), (1, .slice ((some ⟨bb33, 0, none⟩)) ((n + 1)) rc26), (2, .pointer (some ⟨g2, 0, none⟩)), (4, .slice none 0 0), (5, .int .i64 (((n : Nat) : Int)))]) ⟨rfl, rfl, rfl, rfl, rfl, trivial⟩ ?_)
  refine WE.next ?_
  refine WC.seq ?_
  refine WC.seq ?_
  refine WC.region ?_
  refine WL.val (.pointer (some ⟨g2, 1, none⟩)) rfl rfl rfl (fun za zC zh zk => fld_27_1 rfl (zh.ev rfl) zk) ?_
  refine WL.val (.slice a l.length c) rfl rfl rfl (fun za zC zh zk => ld_25 rfl (zh.ev rfl) ((hB31.cell 1).trans rfl) zk) ?_
  refine WL.val (.int .i64 (((l.length : Nat) : Int))) rfl rfl rfl (fun za zC zh zk => len_25 rfl (zh.ev rfl) zk) ?_
  refine WL.val (.int .i64 0) rfl rfl rfl (fun za zC zh zk => wp_move rfl (zh.ev rfl) zk) ?_
  refine WL.nil (WE.sub (K' := [(0, .agg #[.int .i64 f, .slice a l.length c]), (1, .slice ((some ⟨bb33, 0, none⟩)) ((n + 1)) rc26), (2, .pointer (some ⟨g2, 0, none⟩)), (4, .slice none 0 0), (5, .int .i64 (((n : Nat) : Int))), (16, .slice a l.length c), (17, .int .i64 (((l.length : Nat) : Int))), (18, .int .i64 0)]) ⟨rfl, rfl, rfl, rfl, rfl, rfl, rfl, rfl, trivial⟩ ?_)
  refine WE.next ?_
  refine WC.block ?_
  refine WC.loop (X := LayX) (fun x => l.length - x.k) (fun x => [(0, .agg #[.int .i64 f, .slice a l.length c]), (1, .slice ((some ⟨x.bm, 0, none⟩)) ((n + 1 + T.sizeL (l.take x.k))) x.rc), (2, .pointer (some ⟨g2, 0, none⟩)), (4, .slice none 0 0), (5, .int .i64 (((n : Nat) : Int))), (16, .slice a l.length c), (17, .int .i64 (((l.length : Nat) : Int))), (18, .int .i64 (((x.k : Nat) : Int)))]) (fun x w38 => x.k ≤ l.length ∧ LaySt 86 w0 w.heap.size n xs f a c l x.bm x.rc x.xa x.xz x.ba x.la x.ys x.k x.k w38 ∧ ((x.bm = bm ∧ x.bm < lo) ∨ w.heap.size ≤ x.bm) ∧ g2 ≠ x.bm ∧ ¬ (g2 = x.ba ∧ g2 < x.la) ∧ Below w0.heap.size w0 w38 ∧ Blk w38 g2 27 #[.int .i64 f, .slice a l.length c] ∧ Chg ((fun g => g = bm ∧ g < lo)) w w38) (⟨bb33, rc26, none, 0, 0, 0, [], 0⟩) ⟨rfl, rfl, rfl, rfl, rfl, rfl, rfl, rfl, trivial⟩ ?_ ?_
  · have hs39 : Chg ((fun g => g = bm ∧ g < lo)) w w24 := (Chg.trans2 (Chg.trans2 (Chg.refl ((fun g => g = bm ∧ g < lo)) _) (Chg.ofBelow (S := fun k => k < 0) hb19) (fun i h1 h2 => by (try dsimp only at *); omega)) hc28 (fun i h1 h2 => by (try dsimp only at *); omega))
    exact ⟨Nat.zero_le _, (hst37.below (Below.refl _ _)), by dsimp only; omega, by dsimp only; omega, by dsimp only; omega, hb30, hB31, hs39⟩
  · rintro x w38 ⟨hk, hst, hor, hg1, hg2, hb40, hB41, hc42⟩
    have hlt := hst.lt
    have hla := hst.hla
    have hne := hst.ne
    have hba := hst.hba
    have hsz : w.heap.size ≤ w38.heap.size := hc42.size
    have hzk : x.k < l.length → T.sizeL (l.take x.k) + (tget l x.k).size ≤ T.sizeL l := size_take_tget
    have hzt := T.sizeL_take_le l x.k
    refine WC.seq ?_
    refine WC.region ?_
    refine WL.val (.bool ((decide ((((x.k : Nat) : Int) : Int) < (((l.length : Nat) : Int) : Int))))) rfl rfl rfl (fun za zC zh zk => lss_3 rfl (zh.ev rfl) (zh.ev rfl) zk) ?_
    refine WL.nil (WE.sub (K' := [(0, .agg #[.int .i64 f, .slice a l.length c]), (1, .slice ((some ⟨x.bm, 0, none⟩)) ((n + 1 + T.sizeL (l.take x.k))) x.rc), (2, .pointer (some ⟨g2, 0, none⟩)), (4, .slice none 0 0), (5, .int .i64 (((n : Nat) : Int))), (16, .slice a l.length c), (17, .int .i64 (((l.length : Nat) : Int))), (18, .int .i64 (((x.k : Nat) : Int))), (19, .bool ((decide ((((x.k : Nat) : Int) : Int) < (((l.length : Nat) : Int) : Int)))))]) ⟨rfl, rfl, rfl, rfl, rfl, rfl, rfl, rfl, rfl, trivial⟩ ?_)
    refine WE.next ?_
    refine WC.seq ?_
    refine WC.cond rfl (fun h43 => ?_) (fun h43 => ?_)
    · have h43 : (((x.k : Nat) : Int) : Int) < (((l.length : Nat) : Int) : Int) := by simpa using h43
      refine WC.skip ?_
      refine WE.next ?_
      refine WC.seq ?_
      refine WC.block ?_
      refine WC.seq ?_
      refine WC.region ?_
      obtain ⟨b44, o45, A46, C47, ha48, hc49⟩ := IsTs.open hl
      refine WL.val (.pointer (some ⟨b44, o45 + x.k * 2, none⟩)) rfl rfl rfl (fun za zC zh zk => ix_25 (k := x.k) rfl (zh.ev rfl) (ha48 x.k (by first | omega | (simp; omega))) (zh.ev rfl) (by first | omega | (simp; omega)) zk) ?_
      refine WL.val (.agg #[.int .i64 ((tget l x.k).f), .slice ((A46 x.k)) ((tget l x.k).args.length) ((C47 x.k))]) rfl rfl rfl (fun za zC zh zk => ld_27 rfl (zh.ev rfl) (bkeeps hb40 _ _ (hc49 x.k (by first | omega | (simp; omega))).1) (bkeeps hb40 _ _ (hc49 x.k (by first | omega | (simp; omega))).2.1) zk) ?_
      refine WL.step (post := NewBlk w38 27 #[.int .i64 0, .slice none 0 0]) rfl rfl rfl (fun za zC zh zk => alloc_27 rfl (zk _ _ (newBlk _ _ _))) ?_
      rintro _ w50 ⟨g51, rfl, hg52, hB53, hb54, hz55⟩
      have hl56 : g2 < g51 := by have z1 := hB41.lt; omega
      have hl57 : w.heap.size ≤ g51 := by have z2 := hc42.size; omega
      have hl58 : w0.heap.size ≤ g51 := by have z2 := (hb40).size; omega
      have hl59 : w38.heap.size ≤ g51 := by omega
      refine WL.step (post := fun _ w' => Upd g51 w50 w' ∧ Blk w' g51 27 #[.int .i64 ((tget l x.k).f), .slice ((A46 x.k)) ((tget l x.k).args.length) ((C47 x.k))]) rfl rfl rfl (fun za zC zh zk => st_27 rfl (zh.ev rfl) (zh.ev rfl) rfl rfl hB53 (by first | decide | simp) (fun v => zk v _ ⟨(Upd.at_ _ _ _ _).trans (Upd.at_ _ _ _ _), (hB53.set_ 0 _).set_ 1 _⟩)) ?_
      rintro v63 w60 ⟨hu61, hB62⟩
      have hb64 : Below w0.heap.size w0 w50 := (bstep hb40 hb54)
      have hb65 := upd_below hb64 hu61 (by omega)
      have hb66 := upd_below hb54 hu61 (by omega)
      have hB67 := hB41.below hb54
      have hB68 := upd_blk hB67 hu61 (by omega)
      refine WL.nil (WE.sub (K' := [(0, .agg #[.int .i64 f, .slice a l.length c]), (1, .slice ((some ⟨x.bm, 0, none⟩)) ((n + 1 + T.sizeL (l.take x.k))) x.rc), (2, .pointer (some ⟨g2, 0, none⟩)), (4, .slice none 0 0), (5, .int .i64 (((n : Nat) : Int))), (7, .pointer (some ⟨g51, 0, none⟩)), (16, .slice a l.length c), (17, .int .i64 (((l.length : Nat) : Int))), (18, .int .i64 (((x.k : Nat) : Int))), (19, .bool ((decide ((((x.k : Nat) : Int) : Int) < (((l.length : Nat) : Int) : Int)))))]) ⟨rfl, rfl, rfl, rfl, rfl, rfl, rfl, rfl, rfl, rfl, trivial⟩ ?_)
      refine WE.next ?_
      refine WC.seq ?_
      refine WC.region ?_
      refine WL.val (.slice ((some ⟨x.bm, 0, none⟩)) ((n + 1 + T.sizeL (l.take x.k))) x.rc) rfl rfl rfl (fun za zC zh zk => wp_move rfl (zh.ev rfl) zk) ?_
      refine WL.val (.int .i64 (((n : Nat) : Int))) rfl rfl rfl (fun za zC zh zk => wp_move rfl (zh.ev rfl) zk) ?_
      refine WL.val (.slice ((some ⟨x.bm, 0, none⟩)) ((n + 1 + T.sizeL (l.take x.k))) x.rc) rfl rfl rfl (fun za zC zh zk => wp_move rfl (zh.ev rfl) zk) ?_
      refine WL.val (.int .i64 (((n : Nat) : Int))) rfl rfl rfl (fun za zC zh zk => wp_move rfl (zh.ev rfl) zk) ?_
      refine WL.val (.pointer (some ⟨x.bm, 0 + n * 3, none⟩)) rfl rfl rfl (fun za zC zh zk => ix_71 (k := n) rfl (zh.ev rfl) rfl (zh.ev rfl) (by first | omega | (simp; omega)) zk) ?_
      refine WL.val (.pointer (some ⟨x.bm, 0 + n * 3 + 2, none⟩)) rfl rfl rfl (fun za zC zh zk => fld_86_1 rfl (zh.ev rfl) zk) ?_
      refine WL.val (.slice x.xa x.k x.xz) rfl rfl rfl (fun za zC zh zk => ld_22 rfl (zh.ev rfl) (own_cell (hst.below hb66).main (lay_cell hxl)) zk) ?_
      refine WL.val (.slice ((some ⟨x.bm, 0, none⟩)) ((n + 1 + T.sizeL (l.take x.k))) x.rc) rfl rfl rfl (fun za zC zh zk => wp_move rfl (zh.ev rfl) zk) ?_
      refine WL.val (.int .i64 ((((n + 1 + T.sizeL (l.take x.k)) : Nat) : Int))) rfl rfl rfl (fun za zC zh zk => len_71 rfl (zh.ev rfl) zk) ?_
      refine WL.step (post := NewRow w60 3 #[.int .i64 ((((n + 1 + T.sizeL (l.take x.k)) : Nat) : Int))] 1) rfl rfl rfl (fun za zC zh zk => row_22_1 rfl (zh.ev rfl) (zk _ _ (newRow _ _ _ _))) ?_
      rintro _ w69 ⟨g70, rfl, hg71, hB72, hb73, hz74⟩
      have hl75 : g2 < g70 := by have z1 := hB68.lt; omega
      have hl76 : g51 < g70 := by have z1 := hB62.lt; omega
      have hl77 : w.heap.size ≤ g70 := by have z2 := (Nat.le_trans hc42.size hb66.size); omega
      have hl78 : w0.heap.size ≤ g70 := by have z2 := (hb65).size; omega
      have hl79 : w38.heap.size ≤ g70 := by have z2 := (hb66).size; omega
      have hb81 : Below w38.heap.size w38 w69 := (bstep hb66 hb73)
      have hst80 := hst.below hb81
      have hl82 := hst80.lt
      have hl83 := hst80.hla
      have hw84 : w.heap.size ≤ w69.heap.size := (Nat.le_trans hc42.size hb81.size)
      have hl85 : g2 < w69.heap.size := by have z1 := hB68.lt; have z2 := (hb73).size; omega
      have hl86 : g51 < w69.heap.size := by have z1 := hB62.lt; have z2 := (hb73).size; omega
      have hl87 : g70 < w69.heap.size := by have z1 := hB72.lt; omega
      have hb89 : Below w0.heap.size w0 w69 := (bstep hb40 hb81)
      have hl88 : w0.heap.size ≤ w69.heap.size := (hb89).size
      refine WL.step (post := fun v w' => ∃ ra rc, v = .slice ra (x.k + 1) rc ∧ Own w' (fun g => (g = x.ba ∧ g < x.la) ∨ g = w69.heap.size) 3 1 ra rc (x.k + 1) (((kids (l.take x.k) (n + 1)).map natV) ++ [.int .i64 ((((n + 1 + T.sizeL (l.take x.k)) : Nat) : Int))]) ∧ Chg (fun g => (g = x.ba ∧ g < x.la) ∨ g = w69.heap.size) w69 w') rfl rfl rfl (fun za zC zh zk => app_22 (S := (fun g => (g = x.ba ∧ g < x.la) ∨ g = w69.heap.size)) (xs := ((kids (l.take x.k) (n + 1)).map natV)) (news := [.int .i64 ((((n + 1 + T.sizeL (l.take x.k)) : Nat) : Int))]) rfl (zh.ev rfl) (zh.ev rfl) (own_mono hst80.args (fun b h => .inl h)) (SrcIs.ofBlk hB72) (by simp) (by simp [Value.oneCell']) (by omega) (by omega) (by omega) (fun ra rc w' h1 h2 => zk _ _ ⟨ra, rc, rfl, h1, h2⟩)) ?_
      rintro _ w90 ⟨ra91, rc92, rfl, hr93, hc94⟩
      have hB95 := hB68.below hb73
      have hB96 := hB62.below hb73
      have hb97 := chg_below hb89 hc94 (fun b hb => (by (try dsimp only at *); omega))
      have hB98 := chg_blk hB95 hc94 (by (try dsimp only at *); omega)
      have hB99 := chg_blk hB96 hc94 (by (try dsimp only at *); omega)
      have hB100 := chg_blk hB72 hc94 (by (try dsimp only at *); omega)
      obtain ⟨bb101, hS102, rfl, hlt103, hA104⟩ := own_pick hr93 (by omega)
      try dsimp only at hS102
      refine WL.val (.pointer (some ⟨x.bm, 0 + n * 3, none⟩)) rfl rfl rfl (fun za zC zh zk => ix_71 (k := n) rfl (zh.ev rfl) rfl (zh.ev rfl) (by first | omega | (simp; omega)) zk) ?_
      refine WL.val (.pointer (some ⟨x.bm, 0 + n * 3 + 2, none⟩)) rfl rfl rfl (fun za zC zh zk => fld_86_1 rfl (zh.ev rfl) zk) ?_
      have hM105 := hst80.main.chg hc94 (fun b hb => by omega)
      obtain ⟨cur106, hB107, hcs108⟩ := own_blk hM105
      refine WL.step (post := fun _ w' => w' = w90.setCell ⟨x.bm, 0 + n * 3 + 2, none⟩ (.slice ((some ⟨bb101, 0, none⟩)) ((x.k + 1)) rc92)) rfl rfl rfl (fun za zC zh zk => st_22 rfl (zh.ev rfl) (zh.ev rfl) hB107 (by omega) (fun v => zk v _ rfl)) ?_
      rintro v109 w110 hw111
      have hst113 := LaySt.app hst80 hxl hc94 (by omega) hA104 hS102 hlt103 rfl (by omega) hw111
      have hu112 : Upd x.bm w90 w110 := by rw [hw111]; exact Upd.at_ _ _ _ _
      have hb114 := upd_below hb97 hu112 (by omega)
      have hB115 := upd_blk hB98 hu112 (by omega)
      have hB116 := upd_blk hB99 hu112 (by omega)
      have hB117 := upd_blk hB100 hu112 (by omega)
      have hl118 := hst113.lt
      refine WL.nil (WE.sub (K' := [(0, .agg #[.int .i64 f, .slice a l.length c]), (1, .slice ((some ⟨x.bm, 0, none⟩)) ((n + 1 + T.sizeL (l.take x.k))) x.rc), (2, .pointer (some ⟨g2, 0, none⟩)), (4, .slice none 0 0), (5, .int .i64 (((n : Nat) : Int))), (7, .pointer (some ⟨g51, 0, none⟩)), (16, .slice a l.length c), (17, .int .i64 (((l.length : Nat) : Int))), (18, .int .i64 (((x.k : Nat) : Int))), (19, .bool ((decide ((((x.k : Nat) : Int) : Int) < (((l.length : Nat) : Int) : Int)))))]) ⟨rfl, rfl, rfl, rfl, rfl, rfl, rfl, rfl, rfl, rfl, trivial⟩ ?_)
      refine WE.next ?_
      refine WC.region ?_
      refine WL.val (.agg #[.int .i64 ((tget l x.k).f), .slice ((A46 x.k)) ((tget l x.k).args.length) ((C47 x.k))]) rfl rfl rfl (fun za zC zh zk => ld_27 rfl (zh.ev rfl) ((hB116.cell 0).trans rfl) ((hB116.cell 1).trans rfl) zk) ?_
      refine WL.val (.slice ((some ⟨x.bm, 0, none⟩)) ((n + 1 + T.sizeL (l.take x.k))) x.rc) rfl rfl rfl (fun za zC zh zk => wp_move rfl (zh.ev rfl) zk) ?_
      have hst119 := hst113.below (Below.refl _ _)
      have hl120 := hst119.lt
      have hw121 : w.heap.size ≤ w110.heap.size := (Nat.le_trans (Nat.le_trans (Nat.le_trans hc42.size hb81.size) hc94.size) (Nat.le_of_eq hu112.size.symm))
      refine WL.call rfl rfl rfl (fun za zh zC => wp_call (by kernel_rfl) rfl (hv2 (zh.ev rfl) (zh.ev rfl))) (ih (tget l x.k) (tget_mem (by omega)) w0 _ _ _ _ _ x.bm (x.bm + 1) _ hb114 (hc49 x.k (by first | omega | (simp; omega))).2.2 (own_mono hst119.main (fun b h => ⟨h, by omega⟩)) (by omega) (by omega) (by omega)) ?_
      rintro v122 w130 hP123
      obtain ⟨bm124, rc125, ys126, rfl, hst127, hc128, ho129⟩ := LaySt.call hst119 hw121 (by omega) hP123
      have hl131 := hB115.lt
      have hl132 := hB116.lt
      have hl133 := hB117.lt
      have hb134 := chg_below hb114 hc128 (fun b hb => (by (try dsimp only at *); omega))
      have hB135 := chg_blk hB115 hc128 (by (try dsimp only at *); omega)
      have hB136 := chg_blk hB116 hc128 (by (try dsimp only at *); omega)
      have hB137 := chg_blk hB117 hc128 (by (try dsimp only at *); omega)
      have hl138 := hst127.lt
      have hl139 := hst127.hla
      have hl140 := hst127.hba
      refine WL.val (.slice ((some ⟨bm124, 0, none⟩)) ((n + 1 + T.sizeL (l.take (x.k + 1)))) rc125) rfl rfl rfl (fun za zC zh zk => wp_assign rfl (zh.ev rfl) zk) ?_
      refine WL.nil (WE.sub (K' := [(0, .agg #[.int .i64 f, .slice a l.length c]), (1, .slice ((some ⟨bm124, 0, none⟩)) ((n + 1 + T.sizeL (l.take (x.k + 1)))) rc125), (2, .pointer (some ⟨g2, 0, none⟩)), (4, .slice none 0 0), (5, .int .i64 (((n : Nat) : Int))), (7, .pointer (some ⟨g51, 0, none⟩)), (16, .slice a l.length c), (17, .int .i64 (((l.length : Nat) : Int))), (18, .int .i64 (((x.k : Nat) : Int))), (19, .bool ((decide ((((x.k : Nat) : Int) : Int) < (((l.length : Nat) : Int) : Int)))))]) ⟨rfl, rfl, rfl, rfl, rfl, rfl, rfl, rfl, rfl, rfl, trivial⟩ ?_)
      refine WE.blockNormal ?_
      refine WE.next ?_
      refine WC.region ?_
      refine WL.val (.int .i64 ((((x.k + 1) : Nat) : Int))) rfl rfl rfl (fun za zC zh zk => addb_3 rfl (zh.ev rfl) (zh.ev rfl) (wrap_eq (by omega) (by omega) (by omega)) zk) ?_
      refine WL.val (.int .i64 ((((x.k + 1) : Nat) : Int))) rfl rfl rfl (fun za zC zh zk => wp_move rfl (zh.ev rfl) zk) ?_
      refine WL.nil (WE.sub (K' := [(0, .agg #[.int .i64 f, .slice a l.length c]), (1, .slice ((some ⟨bm124, 0, none⟩)) ((n + 1 + T.sizeL (l.take (x.k + 1)))) rc125), (2, .pointer (some ⟨g2, 0, none⟩)), (4, .slice none 0 0), (5, .int .i64 (((n : Nat) : Int))), (7, .pointer (some ⟨g51, 0, none⟩)), (16, .slice a l.length c), (17, .int .i64 (((l.length : Nat) : Int))), (18, .int .i64 ((((x.k + 1) : Nat) : Int))), (19, .bool ((decide ((((x.k : Nat) : Int) : Int) < (((l.length : Nat) : Int) : Int)))))]) ⟨rfl, rfl, rfl, rfl, rfl, rfl, rfl, rfl, rfl, rfl, trivial⟩ ?_)
      refine WE.round (⟨bm124, rc125, (some ⟨bb101, 0, none⟩), rc92, bb101, (bb101 + 1), ys126, x.k + 1⟩) ⟨rfl, rfl, rfl, rfl, rfl, rfl, rfl, rfl, trivial⟩ ?_ ?_
      · have hs141 : Chg ((fun g => g = bm ∧ g < lo)) w w130 := (Chg.trans2 (Chg.trans2 (Chg.trans2 (Chg.trans2 (Chg.trans2 (Chg.refl ((fun g => g = bm ∧ g < lo)) _) hc42 (fun i h1 h2 => by (try dsimp only at *); omega)) (Chg.ofBelow (S := fun k => k < 0) hb81) (fun i h1 h2 => by (try dsimp only at *); omega)) hc94 (fun i h1 h2 => by (try dsimp only at *); omega)) (Chg.ofUpd (S := fun k => k = x.bm) hu112 rfl) (fun i h1 h2 => by (try dsimp only at *); omega)) hc128 (fun i h1 h2 => by (try dsimp only at *); omega))
        exact ⟨by dsimp only; omega, (hst127.below (Below.refl _ _)), by dsimp only; omega, by dsimp only; omega, by dsimp only; omega, hb134, hB135, hs141⟩
      · dsimp only; omega
    · have h43 : ¬ ((((x.k : Nat) : Int) : Int) < (((l.length : Nat) : Int) : Int)) := by simpa using h43
      refine WC.exit ?_
      refine WE.thenExit ?_
      refine WE.thenExit ?_
      refine WE.blockIs rfl ?_
      refine WE.next ?_
      refine WC.seq ?_
      refine WC.region ?_
      refine WL.val (.slice ((some ⟨x.bm, 0, none⟩)) ((n + 1 + T.sizeL (l.take x.k))) x.rc) rfl rfl rfl (fun za zC zh zk => wp_move rfl (zh.ev rfl) zk) ?_
      refine WL.val (.slice ((some ⟨x.bm, 0, none⟩)) ((n + 1 + T.sizeL (l.take x.k))) x.rc) rfl rfl rfl (fun za zC zh zk => wp_assign rfl (zh.ev rfl) zk) ?_
      refine WL.nil (WE.sub (K' := [(0, .agg #[.int .i64 f, .slice a l.length c]), (1, .slice ((some ⟨x.bm, 0, none⟩)) ((n + 1 + T.sizeL (l.take x.k))) x.rc), (2, .pointer (some ⟨g2, 0, none⟩)), (4, .slice ((some ⟨x.bm, 0, none⟩)) ((n + 1 + T.sizeL (l.take x.k))) x.rc), (5, .int .i64 (((n : Nat) : Int))), (16, .slice a l.length c), (17, .int .i64 (((l.length : Nat) : Int))), (18, .int .i64 (((x.k : Nat) : Int))), (19, .bool ((decide ((((x.k : Nat) : Int) : Int) < (((l.length : Nat) : Int) : Int)))))]) ⟨rfl, rfl, rfl, rfl, rfl, rfl, rfl, rfl, rfl, trivial⟩ ?_)
      refine WE.next ?_
      refine WC.ret ?_
      refine WE.ret1 rfl rfl ?_
      have hs142 : Chg ((fun g => g = bm ∧ g < lo)) w w38 := (Chg.trans2 (Chg.refl ((fun g => g = bm ∧ g < lo)) _) hc42 (fun i h1 h2 => by (try dsimp only at *); omega))
      exact ⟨_, rfl, LaySt.done (hst.below (Below.refl _ _)) hT0 (by omega) (by omega) hs142 hor⟩

set_option maxRecDepth 100000 in
theorem flat_any (t : T) : ∀ (w0 w : World) (v : Value) (ra : Option Addr) (rc n bm lo : Nat) (xs : List Value), Below w0.heap.size w0 w → IsT w0 t v → Own w (fun g => g = bm ∧ g < lo) 84 3 ra rc n xs → lo ≤ w.heap.size → w0.heap.size ≤ bm → n + t.size ≤ 4294967296 →
    Calls Try.prog 33 #[v, .slice ra n rc] w (Ret (LayP 84 w0 w bm lo n xs t)) := by
  induction t using T.ind with
  | h f l ih =>
  intro w0 w v ra rc n bm lo xs hb0 hT hO hlo hbm hz
  have hT0 := hT
  obtain ⟨_, a, c, rfl, hc, hm, hl⟩ := hT
  unfold maxLen at hm
  rw [T.size] at hz
  have hll := len_le_sizeL l
  have hxl := own_len hO
  have hw0 := hb0.size
  refine Calls.walk (l := [.agg #[.int .i64 f, .slice a l.length c], .slice ra n rc]) Try.func33 rfl (by kernel_rfl) ?_
  refine WC.sub (K' := [(0, .agg #[.int .i64 f, .slice a l.length c]), (1, .slice ra n rc)]) ⟨rfl, rfl, trivial⟩ ?_
  refine WC.seq ?_
  refine WC.region ?_
  refine WL.step (post := NewBlk w 27 #[.int .i64 f, .slice a l.length c]) rfl rfl rfl (fun za zC zh zk => box_27 rfl (zh.ev rfl) (zk _ _ (newBlk _ _ _))) ?_
  rintro _ w1 ⟨g2, rfl, hg3, hB4, hb5, hz6⟩
  have hl7 : w0.heap.size ≤ g2 := by have z2 := (hb0).size; omega
  refine WL.val (.slice none 0 0) rfl rfl rfl (fun za zC zh zk => wp_assign rfl (zh.ev rfl) zk) ?_
  refine WL.nil (WE.sub (K' := [(0, .agg #[.int .i64 f, .slice a l.length c]), (1, .slice ra n rc), (2, .pointer (some ⟨g2, 0, none⟩)), (4, .slice none 0 0)]) ⟨rfl, rfl, rfl, rfl, trivial⟩ ?_)
  refine WE.next ?_
  refine WC.seq ?_
  refine WC.region ?_
  refine WL.val (.slice ra n rc) rfl rfl rfl (fun za zC zh zk => wp_move rfl (zh.ev rfl) zk) ?_
  refine WL.val (.int .i64 (((n : Nat) : Int))) rfl rfl rfl (fun za zC zh zk => len_63 rfl (zh.ev rfl) zk) ?_
  refine WL.val (.int .i64 (((n : Nat) : Int))) rfl rfl rfl (fun za zC zh zk => wp_assign rfl (zh.ev rfl) zk) ?_
  refine WL.nil (WE.sub (K' := [(0, .agg #[.int .i64 f, .slice a l.length c]), (1, .slice ra n rc), (2, .pointer (some ⟨g2, 0, none⟩)), (4, .slice none 0 0), (5, .int .i64 (((n : Nat) : Int)))]) ⟨rfl, rfl, rfl, rfl, rfl, trivial⟩ ?_)
  refine WE.next ?_
  refine WC.seq ?_
  refine WC.region ?_
  refine WL.val (.slice ra n rc) rfl rfl rfl (fun za zC zh zk => wp_move rfl (zh.ev rfl) zk) ?_
  refine WL.val (.agg #[.int .i64 f, .slice a l.length c]) rfl rfl rfl (fun za zC zh zk => ld_27 rfl (zh.ev rfl) ((hB4.cell 0).trans rfl) ((hB4.cell 1).trans rfl) zk) ?_
  refine WL.val (.agg #[.int .i64 f, .slice a l.length c, .slice none 0 0]) rfl rfl rfl (fun za zC zh zk => build_84_0 rfl (zh.ev rfl) zk) ?_
  refine WL.step (post := NewRow w1 84 #[.int .i64 f, .slice a l.length c, .slice none 0 0] 1) rfl rfl rfl (fun za zC zh zk => row_63_1 rfl (zh.ev rfl) (zk _ _ (newRow _ _ _ _))) ?_
  rintro _ w8 ⟨g9, rfl, hg10, hB11, hb12, hz13⟩
  have hl14 : g2 < g9 := by have z1 := hB4.lt; omega
  have hb15 : Below w0.heap.size w0 w1 := (bstep hb0 hb5)
  have hl16 : w0.heap.size ≤ g9 := by have z2 := (hb15).size; omega
  have hw17 : w.heap.size ≤ w8.heap.size := (Nat.le_trans hb5.size hb12.size)
  have hb19 : Below w.heap.size w w8 := (bstep hb5 hb12)
  have hO18 := hO.below hb19
  have hl20 : g2 < w8.heap.size := by have z1 := hB4.lt; have z2 := (hb12).size; omega
  have hl21 : g9 < w8.heap.size := by have z1 := hB11.lt; omega
  have hb23 : Below w0.heap.size w0 w8 := (bstep hb0 hb19)
  have hl22 : w0.heap.size ≤ w8.heap.size := (hb23).size
  refine WL.step (post := fun v w' => ∃ ra rc, v = .slice ra (n + 1) rc ∧ Own w' (fun g => (g = bm ∧ g < lo) ∨ g = w8.heap.size) 84 3 ra rc (n + 1) (xs ++ [.int .i64 f, .slice a l.length c, .slice none 0 0]) ∧ Chg (fun g => (g = bm ∧ g < lo) ∨ g = w8.heap.size) w8 w') rfl rfl rfl (fun za zC zh zk => app_63 (S := (fun g => (g = bm ∧ g < lo) ∨ g = w8.heap.size)) (xs := xs) (news := [.int .i64 f, .slice a l.length c, .slice none 0 0]) rfl (zh.ev rfl) (zh.ev rfl) (own_mono hO18 (fun b h => .inl h)) (SrcIs.ofBlk hB11) (by simp) (by simp [Value.oneCell']) (by omega) (by omega) (by omega) (fun ra rc w' h1 h2 => zk _ _ ⟨ra, rc, rfl, h1, h2⟩)) ?_
  rintro _ w24 ⟨ra25, rc26, rfl, hr27, hc28⟩
  have hB29 := hB4.below hb12
  have hb30 := chg_below hb23 hc28 (fun b hb => (by (try dsimp only at *); omega))
  have hB31 := chg_blk hB29 hc28 (by (try dsimp only at *); omega)
  have hB32 := chg_blk hB11 hc28 (by (try dsimp only at *); omega)
  obtain ⟨bb33, hS34, rfl, hlt35, hA36⟩ := own_pick hr27 (by omega)
  try dsimp only at hS34
  have hst37 : LaySt 84 w0 w.heap.size n xs f a c l bb33 rc26 none 0 0 0 [] 0 0 w24 := LaySt.start hA36 hlt35
  refine WL.val (.slice ((some ⟨bb33, 0, none⟩)) ((n + 1)) rc26) rfl rfl rfl (fun za zC zh zk => wp_assign rfl (zh.ev rfl) zk) ?_
  refine WL.nil (WE.sub (K' := [(0, .agg #[.int .i64 f, .slice a l.length c]), (1, .slice ((some ⟨bb33, 0, none⟩)) ((n + 1)) rc26), (2, .pointer (some ⟨g2, 0, none⟩)), (4, .slice none 0 0), (5, .int .i64 (((n : Nat) : Int)))]) ⟨rfl, rfl, rfl, rfl, rfl, trivial⟩ ?_)
  refine WE.next ?_
  refine WC.seq ?_
  refine WC.seq ?_
  refine WC.region ?_
  refine WL.val (.int .i64 0) rfl rfl rfl (fun za zC zh zk => wp_assign rfl (zh.ev rfl) zk) ?_
  refine WL.nil (WE.sub (K' := [(0, .agg #[.int .i64 f, .slice a l.length c]), (1, .slice ((some ⟨bb33, 0, none⟩)) ((n + 1)) rc26), (2, .pointer (some ⟨g2, 0, none⟩)), (4, .slice none 0 0), (5, .int .i64 (((n : Nat) : Int))), (6, .int .i64 0)]) ⟨rfl, rfl, rfl, rfl, rfl, rfl, trivial⟩ ?_)
  refine WE.next ?_
  refine WC.block ?_
  refine WC.loop (X := LayX) (fun x => l.length - x.k) (fun x => [(0, .agg #[.int .i64 f, .slice a l.length c]), (1, .slice ((some ⟨x.bm, 0, none⟩)) ((n + 1 + T.sizeL (l.take x.k))) x.rc), (2, .pointer (some ⟨g2, 0, none⟩)), (4, .slice none 0 0), (5, .int .i64 (((n : Nat) : Int))), (6, .int .i64 (((x.k : Nat) : Int)))]) (fun x w38 => x.k ≤ l.length ∧ LaySt 84 w0 w.heap.size n xs f a c l x.bm x.rc x.xa x.xz x.ba x.la x.ys x.k x.k w38 ∧ ((x.bm = bm ∧ x.bm < lo) ∨ w.heap.size ≤ x.bm) ∧ g2 ≠ x.bm ∧ ¬ (g2 = x.ba ∧ g2 < x.la) ∧ Below w0.heap.size w0 w38 ∧ Blk w38 g2 27 #[.int .i64 f, .slice a l.length c] ∧ Chg ((fun g => g = bm ∧ g < lo)) w w38) (⟨bb33, rc26, none, 0, 0, 0, [], 0⟩) ⟨rfl, rfl, rfl, rfl, rfl, rfl, trivial⟩ ?_ ?_
  · have hs39 : Chg ((fun g => g = bm ∧ g < lo)) w w24 := (Chg.trans2 (Chg.trans2 (Chg.refl ((fun g => g = bm ∧ g < lo)) _) (Chg.ofBelow (S := fun k => k < 0) hb19) (fun i h1 h2 => by (try dsimp only at *); omega)) hc28 (fun i h1 h2 => by (try dsimp only at *); omega))
    exact ⟨Nat.zero_le _, (hst37.below (Below.refl _ _)), by dsimp only; omega, by dsimp only; omega, by dsimp only; omega, hb30, hB31, hs39⟩
  · rintro x w38 ⟨hk, hst, hor, hg1, hg2, hb40, hB41, hc42⟩
    have hlt := hst.lt
    have hla := hst.hla
    have hne := hst.ne
    have hba := hst.hba
    have hsz : w.heap.size ≤ w38.heap.size := hc42.size
    have hzk : x.k < l.length → T.sizeL (l.take x.k) + (tget l x.k).size ≤ T.sizeL l := size_take_tget
    have hzt := T.sizeL_take_le l x.k
    refine WC.seq ?_
    refine WC.seq ?_
    refine WC.region ?_
    refine WL.val (.int .i64 (((x.k : Nat) : Int))) rfl rfl rfl (fun za zC zh zk => wp_move rfl (zh.ev rfl) zk) ?_
    refine WL.val (.pointer (some ⟨g2, 1, none⟩)) rfl rfl rfl (fun za zC zh zk => fld_27_1 rfl (zh.ev rfl) zk) ?_
    refine WL.val (.slice a l.length c) rfl rfl rfl (fun za zC zh zk => ld_25 rfl (zh.ev rfl) ((hB41.cell 1).trans rfl) zk) ?_
    refine WL.val (.int .i64 (((l.length : Nat) : Int))) rfl rfl rfl (fun za zC zh zk => len_25 rfl (zh.ev rfl) zk) ?_
    refine WL.val (.bool ((decide ((((x.k : Nat) : Int) : Int) < (((l.length : Nat) : Int) : Int))))) rfl rfl rfl (fun za zC zh zk => lss_3 rfl (zh.ev rfl) (zh.ev rfl) zk) ?_
    refine WL.nil (WE.sub (K' := [(0, .agg #[.int .i64 f, .slice a l.length c]), (1, .slice ((some ⟨x.bm, 0, none⟩)) ((n + 1 + T.sizeL (l.take x.k))) x.rc), (2, .pointer (some ⟨g2, 0, none⟩)), (4, .slice none 0 0), (5, .int .i64 (((n : Nat) : Int))), (6, .int .i64 (((x.k : Nat) : Int))), (19, .bool ((decide ((((x.k : Nat) : Int) : Int) < (((l.length : Nat) : Int) : Int)))))]) ⟨rfl, rfl, rfl, rfl, rfl, rfl, rfl, trivial⟩ ?_)
    refine WE.next ?_
    refine WC.cond rfl (fun h43 => ?_) (fun h43 => ?_)
    · have h43 : (((x.k : Nat) : Int) : Int) < (((l.length : Nat) : Int) : Int) := by simpa using h43
      refine WC.skip ?_
      refine WE.next ?_
      refine WC.seq ?_
      refine WC.block ?_
      refine WC.seq ?_
      refine WC.region ?_
      refine WL.val (.slice ((some ⟨x.bm, 0, none⟩)) ((n + 1 + T.sizeL (l.take x.k))) x.rc) rfl rfl rfl (fun za zC zh zk => wp_move rfl (zh.ev rfl) zk) ?_
      refine WL.val (.int .i64 ((((n + 1 + T.sizeL (l.take x.k)) : Nat) : Int))) rfl rfl rfl (fun za zC zh zk => len_63 rfl (zh.ev rfl) zk) ?_
      refine WL.val (.int .i64 ((((n + 1 + T.sizeL (l.take x.k)) : Nat) : Int))) rfl rfl rfl (fun za zC zh zk => wp_assign rfl (zh.ev rfl) zk) ?_
      refine WL.nil (WE.sub (K' := [(0, .agg #[.int .i64 f, .slice a l.length c]), (1, .slice ((some ⟨x.bm, 0, none⟩)) ((n + 1 + T.sizeL (l.take x.k))) x.rc), (2, .pointer (some ⟨g2, 0, none⟩)), (4, .slice none 0 0), (5, .int .i64 (((n : Nat) : Int))), (6, .int .i64 (((x.k : Nat) : Int))), (7, .int .i64 ((((n + 1 + T.sizeL (l.take x.k)) : Nat) : Int))), (19, .bool ((decide ((((x.k : Nat) : Int) : Int) < (((l.length : Nat) : Int) : Int)))))]) ⟨rfl, rfl, rfl, rfl, rfl, rfl, rfl, rfl, trivial⟩ ?_)
      refine WE.next ?_
      refine WC.seq ?_
      refine WC.region ?_
      refine WL.val (.pointer (some ⟨g2, 1, none⟩)) rfl rfl rfl (fun za zC zh zk => fld_27_1 rfl (zh.ev rfl) zk) ?_
      refine WL.val (.slice a l.length c) rfl rfl rfl (fun za zC zh zk => ld_25 rfl (zh.ev rfl) ((hB41.cell 1).trans rfl) zk) ?_
      refine WL.val (.int .i64 (((x.k : Nat) : Int))) rfl rfl rfl (fun za zC zh zk => wp_move rfl (zh.ev rfl) zk) ?_
      obtain ⟨b44, o45, A46, C47, ha48, hc49⟩ := IsTs.open hl
      refine WL.val (.pointer (some ⟨b44, o45 + x.k * 2, none⟩)) rfl rfl rfl (fun za zC zh zk => ix_25 (k := x.k) rfl (zh.ev rfl) (ha48 x.k (by first | omega | (simp; omega))) (zh.ev rfl) (by first | omega | (simp; omega)) zk) ?_
      refine WL.val (.agg #[.int .i64 ((tget l x.k).f), .slice ((A46 x.k)) ((tget l x.k).args.length) ((C47 x.k))]) rfl rfl rfl (fun za zC zh zk => ld_27 rfl (zh.ev rfl) (bkeeps hb40 _ _ (hc49 x.k (by first | omega | (simp; omega))).1) (bkeeps hb40 _ _ (hc49 x.k (by first | omega | (simp; omega))).2.1) zk) ?_
      refine WL.val (.slice ((some ⟨x.bm, 0, none⟩)) ((n + 1 + T.sizeL (l.take x.k))) x.rc) rfl rfl rfl (fun za zC zh zk => wp_move rfl (zh.ev rfl) zk) ?_
      have hst50 := hst.below (Below.refl _ _)
      have hl51 := hst50.lt
      have hw52 : w.heap.size ≤ w38.heap.size := hc42.size
      refine WL.call rfl rfl rfl (fun za zh zC => wp_call (by kernel_rfl) rfl (hv2 (zh.ev rfl) (zh.ev rfl))) (ih (tget l x.k) (tget_mem (by omega)) w0 _ _ _ _ _ x.bm (x.bm + 1) _ hb40 (hc49 x.k (by first | omega | (simp; omega))).2.2 (own_mono hst50.main (fun b h => ⟨h, by omega⟩)) (by omega) (by omega) (by omega)) ?_
      rintro v53 w61 hP54
      obtain ⟨bm55, rc56, ys57, rfl, hst58, hc59, ho60⟩ := LaySt.call hst50 hw52 (by omega) hP54
      have hl62 := hB41.lt
      have hb63 := chg_below hb40 hc59 (fun b hb => (by (try dsimp only at *); omega))
      have hB64 := chg_blk hB41 hc59 (by (try dsimp only at *); omega)
      have hl65 := hst58.lt
      have hl66 := hst58.hla
      have hl67 := hst58.hba
      refine WL.val (.slice ((some ⟨bm55, 0, none⟩)) ((n + 1 + T.sizeL (l.take (x.k + 1)))) rc56) rfl rfl rfl (fun za zC zh zk => wp_assign rfl (zh.ev rfl) zk) ?_
      refine WL.nil (WE.sub (K' := [(0, .agg #[.int .i64 f, .slice a l.length c]), (1, .slice ((some ⟨bm55, 0, none⟩)) ((n + 1 + T.sizeL (l.take (x.k + 1)))) rc56), (2, .pointer (some ⟨g2, 0, none⟩)), (4, .slice none 0 0), (5, .int .i64 (((n : Nat) : Int))), (6, .int .i64 (((x.k : Nat) : Int))), (7, .int .i64 ((((n + 1 + T.sizeL (l.take x.k)) : Nat) : Int))), (19, .bool ((decide ((((x.k : Nat) : Int) : Int) < (((l.length : Nat) : Int) : Int)))))]) ⟨rfl, rfl, rfl, rfl, rfl, rfl, rfl, rfl, trivial⟩ ?_)
      refine WE.next ?_
      refine WC.region ?_
      refine WL.val (.slice ((some ⟨bm55, 0, none⟩)) ((n + 1 + T.sizeL (l.take (x.k + 1)))) rc56) rfl rfl rfl (fun za zC zh zk => wp_move rfl (zh.ev rfl) zk) ?_
      refine WL.val (.int .i64 (((n : Nat) : Int))) rfl rfl rfl (fun za zC zh zk => wp_move rfl (zh.ev rfl) zk) ?_
      refine WL.val (.slice ((some ⟨bm55, 0, none⟩)) ((n + 1 + T.sizeL (l.take (x.k + 1)))) rc56) rfl rfl rfl (fun za zC zh zk => wp_move rfl (zh.ev rfl) zk) ?_
      refine WL.val (.int .i64 (((n : Nat) : Int))) rfl rfl rfl (fun za zC zh zk => wp_move rfl (zh.ev rfl) zk) ?_
      refine WL.val (.pointer (some ⟨bm55, 0 + n * 3, none⟩)) rfl rfl rfl (fun za zC zh zk => ix_63 (k := n) rfl (zh.ev rfl) rfl (zh.ev rfl) (by first | omega | (simp; omega)) zk) ?_
      refine WL.val (.pointer (some ⟨bm55, 0 + n * 3 + 2, none⟩)) rfl rfl rfl (fun za zC zh zk => fld_84_1 rfl (zh.ev rfl) zk) ?_
      refine WL.val (.slice x.xa x.k x.xz) rfl rfl rfl (fun za zC zh zk => ld_22 rfl (zh.ev rfl) (own_cell (hst58.below (Below.refl _ _)).main (lay_cell hxl)) zk) ?_
      refine WL.val (.int .i64 ((((n + 1 + T.sizeL (l.take x.k)) : Nat) : Int))) rfl rfl rfl (fun za zC zh zk => wp_move rfl (zh.ev rfl) zk) ?_
      refine WL.step (post := NewRow w61 3 #[.int .i64 ((((n + 1 + T.sizeL (l.take x.k)) : Nat) : Int))] 1) rfl rfl rfl (fun za zC zh zk => row_22_1 rfl (zh.ev rfl) (zk _ _ (newRow _ _ _ _))) ?_
      rintro _ w68 ⟨g69, rfl, hg70, hB71, hb72, hz73⟩
      have hl74 : g2 < g69 := by have z1 := hB64.lt; omega
      have hl75 : w.heap.size ≤ g69 := by have z2 := (Nat.le_trans hc42.size hc59.size); omega
      have hl76 : w0.heap.size ≤ g69 := by have z2 := (hb63).size; omega
      have hl77 : w61.heap.size ≤ g69 := by omega
      have hst78 := hst58.below hb72
      have hl79 := hst78.lt
      have hl80 := hst78.hla
      have hw81 : w.heap.size ≤ w68.heap.size := (Nat.le_trans (Nat.le_trans hc42.size hc59.size) hb72.size)
      have hl82 : g2 < w68.heap.size := by have z1 := hB64.lt; have z2 := (hb72).size; omega
      have hl83 : g69 < w68.heap.size := by have z1 := hB71.lt; omega
      have hb85 : Below w0.heap.size w0 w68 := (bstep hb63 hb72)
      have hl84 : w0.heap.size ≤ w68.heap.size := (hb85).size
      refine WL.step (post := fun v w' => ∃ ra rc, v = .slice ra (x.k + 1) rc ∧ Own w' (fun g => (g = x.ba ∧ g < x.la) ∨ g = w68.heap.size) 3 1 ra rc (x.k + 1) (((kids (l.take x.k) (n + 1)).map natV) ++ [.int .i64 ((((n + 1 + T.sizeL (l.take x.k)) : Nat) : Int))]) ∧ Chg (fun g => (g = x.ba ∧ g < x.la) ∨ g = w68.heap.size) w68 w') rfl rfl rfl (fun za zC zh zk => app_22 (S := (fun g => (g = x.ba ∧ g < x.la) ∨ g = w68.heap.size)) (xs := ((kids (l.take x.k) (n + 1)).map natV)) (news := [.int .i64 ((((n + 1 + T.sizeL (l.take x.k)) : Nat) : Int))]) rfl (zh.ev rfl) (zh.ev rfl) (own_mono hst78.args (fun b h => .inl h)) (SrcIs.ofBlk hB71) (by simp) (by simp [Value.oneCell']) (by omega) (by omega) (by omega) (fun ra rc w' h1 h2 => zk _ _ ⟨ra, rc, rfl, h1, h2⟩)) ?_
      rintro _ w86 ⟨ra87, rc88, rfl, hr89, hc90⟩
      have hB91 := hB64.below hb72
      have hb92 := chg_below hb85 hc90 (fun b hb => (by (try dsimp only at *); omega))
      have hB93 := chg_blk hB91 hc90 (by (try dsimp only at *); omega)
      have hB94 := chg_blk hB71 hc90 (by (try dsimp only at *); omega)
      obtain ⟨bb95, hS96, rfl, hlt97, hA98⟩ := own_pick hr89 (by omega)
      try dsimp only at hS96
      refine WL.val (.pointer (some ⟨bm55, 0 + n * 3, none⟩)) rfl rfl rfl (fun za zC zh zk => ix_63 (k := n) rfl (zh.ev rfl) rfl (zh.ev rfl) (by first | omega | (simp; omega)) zk) ?_
      refine WL.val (.pointer (some ⟨bm55, 0 + n * 3 + 2, none⟩)) rfl rfl rfl (fun za zC zh zk => fld_84_1 rfl (zh.ev rfl) zk) ?_
      have hM99 := hst78.main.chg hc90 (fun b hb => by omega)
      obtain ⟨cur100, hB101, hcs102⟩ := own_blk hM99
      refine WL.step (post := fun _ w' => w' = w86.setCell ⟨bm55, 0 + n * 3 + 2, none⟩ (.slice ((some ⟨bb95, 0, none⟩)) ((x.k + 1)) rc88)) rfl rfl rfl (fun za zC zh zk => st_22 rfl (zh.ev rfl) (zh.ev rfl) hB101 (by omega) (fun v => zk v _ rfl)) ?_
      rintro v103 w104 hw105
      have hst107 := LaySt.app hst78 hxl hc90 (by omega) hA98 hS96 hlt97 rfl (by omega) hw105
      have hu106 : Upd bm55 w86 w104 := by rw [hw105]; exact Upd.at_ _ _ _ _
      have hb108 := upd_below hb92 hu106 (by omega)
      have hB109 := upd_blk hB93 hu106 (by omega)
      have hB110 := upd_blk hB94 hu106 (by omega)
      have hl111 := hst107.lt
      refine WL.nil (WE.sub (K' := [(0, .agg #[.int .i64 f, .slice a l.length c]), (1, .slice ((some ⟨bm55, 0, none⟩)) ((n + 1 + T.sizeL (l.take (x.k + 1)))) rc56), (2, .pointer (some ⟨g2, 0, none⟩)), (4, .slice none 0 0), (5, .int .i64 (((n : Nat) : Int))), (6, .int .i64 (((x.k : Nat) : Int))), (7, .int .i64 ((((n + 1 + T.sizeL (l.take x.k)) : Nat) : Int))), (19, .bool ((decide ((((x.k : Nat) : Int) : Int) < (((l.length : Nat) : Int) : Int)))))]) ⟨rfl, rfl, rfl, rfl, rfl, rfl, rfl, rfl, trivial⟩ ?_)
      refine WE.blockNormal ?_
      refine WE.next ?_
      refine WC.region ?_
      refine WL.val (.int .i64 (((x.k : Nat) : Int))) rfl rfl rfl (fun za zC zh zk => wp_move rfl (zh.ev rfl) zk) ?_
      refine WL.val (.int .i64 ((((x.k + 1) : Nat) : Int))) rfl rfl rfl (fun za zC zh zk => addb_3 rfl (zh.ev rfl) (zh.ev rfl) (wrap_eq (by omega) (by omega) (by omega)) zk) ?_
      refine WL.val (.int .i64 ((((x.k + 1) : Nat) : Int))) rfl rfl rfl (fun za zC zh zk => wp_assign rfl (zh.ev rfl) zk) ?_
      refine WL.nil (WE.sub (K' := [(0, .agg #[.int .i64 f, .slice a l.length c]), (1, .slice ((some ⟨bm55, 0, none⟩)) ((n + 1 + T.sizeL (l.take (x.k + 1)))) rc56), (2, .pointer (some ⟨g2, 0, none⟩)), (4, .slice none 0 0), (5, .int .i64 (((n : Nat) : Int))), (6, .int .i64 ((((x.k + 1) : Nat) : Int))), (7, .int .i64 ((((n + 1 + T.sizeL (l.take x.k)) : Nat) : Int))), (19, .bool ((decide ((((x.k : Nat) : Int) : Int) < (((l.length : Nat) : Int) : Int)))))]) ⟨rfl, rfl, rfl, rfl, rfl, rfl, rfl, rfl, trivial⟩ ?_)
      refine WE.round (⟨bm55, rc56, (some ⟨bb95, 0, none⟩), rc88, bb95, (bb95 + 1), ys57, x.k + 1⟩) ⟨rfl, rfl, rfl, rfl, rfl, rfl, trivial⟩ ?_ ?_
      · have hs112 : Chg ((fun g => g = bm ∧ g < lo)) w w104 := (Chg.trans2 (Chg.trans2 (Chg.trans2 (Chg.trans2 (Chg.trans2 (Chg.refl ((fun g => g = bm ∧ g < lo)) _) hc42 (fun i h1 h2 => by (try dsimp only at *); omega)) hc59 (fun i h1 h2 => by (try dsimp only at *); omega)) (Chg.ofBelow (S := fun k => k < 0) hb72) (fun i h1 h2 => by (try dsimp only at *); omega)) hc90 (fun i h1 h2 => by (try dsimp only at *); omega)) (Chg.ofUpd (S := fun k => k = bm55) hu106 rfl) (fun i h1 h2 => by (try dsimp only at *); omega))
        exact ⟨by dsimp only; omega, (hst107.below (Below.refl _ _)), by dsimp only; omega, by dsimp only; omega, by dsimp only; omega, hb108, hB109, hs112⟩
      · dsimp only; omega
    · have h43 : ¬ ((((x.k : Nat) : Int) : Int) < (((l.length : Nat) : Int) : Int)) := by simpa using h43
      refine WC.exit ?_
      refine WE.thenExit ?_
      refine WE.thenExit ?_
      refine WE.blockIs rfl ?_
      refine WE.next ?_
      refine WC.seq ?_
      refine WC.region ?_
      refine WL.val (.slice ((some ⟨x.bm, 0, none⟩)) ((n + 1 + T.sizeL (l.take x.k))) x.rc) rfl rfl rfl (fun za zC zh zk => wp_move rfl (zh.ev rfl) zk) ?_
      refine WL.val (.slice ((some ⟨x.bm, 0, none⟩)) ((n + 1 + T.sizeL (l.take x.k))) x.rc) rfl rfl rfl (fun za zC zh zk => wp_assign rfl (zh.ev rfl) zk) ?_
      refine WL.nil (WE.sub (K' := [(0, .agg #[.int .i64 f, .slice a l.length c]), (1, .slice ((some ⟨x.bm, 0, none⟩)) ((n + 1 + T.sizeL (l.take x.k))) x.rc), (2, .pointer (some ⟨g2, 0, none⟩)), (4, .slice ((some ⟨x.bm, 0, none⟩)) ((n + 1 + T.sizeL (l.take x.k))) x.rc), (5, .int .i64 (((n : Nat) : Int))), (6, .int .i64 (((x.k : Nat) : Int))), (19, .bool ((decide ((((x.k : Nat) : Int) : Int) < (((l.length : Nat) : Int) : Int)))))]) ⟨rfl, rfl, rfl, rfl, rfl, rfl, rfl, trivial⟩ ?_)
      refine WE.next ?_
      refine WC.ret ?_
      refine WE.ret1 rfl rfl ?_
      have hs113 : Chg ((fun g => g = bm ∧ g < lo)) w w38 := (Chg.trans2 (Chg.refl ((fun g => g = bm ∧ g < lo)) _) hc42 (fun i h1 h2 => by (try dsimp only at *); omega))
      exact ⟨_, rfl, LaySt.done (hst.below (Below.refl _ _)) hT0 (by omega) (by omega) hs113 hor⟩

end Go.Proofs.Ytlkiabgpnboicaa
