/- The size of a term: the walk. -/
import Derived.Test.YtlkiabgpnboicaaMgb
import Derived.Test.YtlkiabgpnboicaaMge
import Derived.Test.YtlkiabgpnboicaaMga

/- A term laid out in a row of its parts: the walks of the program and of the document. -/
namespace Go.Proofs.Ytlkiabgpnboicaa
open Go.RowKit Go

theorem len_le_sizeL : ∀ l : List T, l.length ≤ T.sizeL l
  | [] => by simp
  | a :: r => by
    have := len_le_sizeL r
    have := T.size_eq a
    rw [T.sizeL, List.length_cons]; omega
theorem own_blk {w : World} {S : Nat → Prop} {e size b rc n : Nat} {xs : List Value} (h : Own w S e size (some ⟨b, 0, none⟩) rc n xs) : ∃ cur, Blk w b e cur ∧ n * size ≤ cur.size := by
  rcases h.1.2 with ⟨e1, _⟩ | ⟨g, cap, cur, e1, h1, hb, h2, h3, h4, h5⟩
  · cases e1
  · simp only [Value.slice.injEq, Option.some.injEq, Addr.mk.injEq, and_true, true_and] at e1
    obtain ⟨rfl, rfl⟩ := e1
    exact ⟨cur, hb, by rw [h4]; exact Nat.mul_le_mul_right _ h2⟩
theorem size_take_tget {l : List T} {k : Nat} (h : k < l.length) : T.sizeL (l.take k) + (tget l k).size ≤ T.sizeL l := by
  have h2 := T.sizeL_take_le l (k + 1)
  rw [sizeL_take_t h] at h2; exact h2

set_option maxRecDepth 100000 in
theorem parts_any (t : T) : ∀ (w0 w : World) (v : Value) (ra : Option Addr) (rc n bm lo : Nat) (xs : List Value), Below w0.heap.size w0 w → IsT w0 t v → Own w (fun g => g = bm ∧ g < lo) 86 3 ra rc n xs → lo ≤ w.heap.size → w0.heap.size ≤ bm → n + t.size ≤ 4294967296 →
    Calls Try.prog 36 #[v, .slice ra n rc] w (Ret (LayP 86 w0 w bm lo n xs t)) := by
  induction t using T.ind with
  | h f l ih =>
  intro w0 w v ra rc n bm lo xs hb0 hT hO hlo hbm hz
  have hT0 := hT
  obtain ⟨_, a, c, rfl, hc, hm, hl⟩ := hT
  unfold maxLen at hm
  rw [T.size] at hz
  have hll := len_le_sizeL l
  have hxl := own_len hO
  have hw0 := hb0.size
  refine Calls.walk (l := [.agg #[.int .i64 f, .slice a l.length c], .slice ra n rc]) Try.func36 rfl (by kernel_rfl) ?_
  refine WC.sub (K' := [(0, .agg #[.int .i64 f, .slice a l.length c]), (1, .slice ra n rc)]) ⟨rfl, rfl, trivial⟩ ?_
  refine WC.seq ?_
  refine WC.region ?_
  refine WL.step (post := NewBlk w 27 #[.int .i64 f, .slice a l.length c]) rfl rfl rfl (fun za zC zh zk => box_27 rfl (zh.ev rfl) (zk _ _ (newBlk _ _ _))) ?_
  rintro _ w1 ⟨g2, rfl, hg3, hB4, hb5, hz6⟩
  have hl7 : w0.heap.size ≤ g2 := by have z2 := (hb0).size; omega
  refine WL.val (.slice none 0 0) rfl rfl rfl (fun za zC zh zk => wp_assign rfl (zh.ev rfl) zk) ?_
  refine WL.nil (WE.sub (K' := [(0, .agg #[.int .i64 f, .slice a l.length c]), (1, .slice ra n rc), (2, .pointer (some ⟨g2, 0, none⟩)), (4, .slice none 0 0)]) ⟨rfl, rfl, rfl, rfl, trivial⟩ ?_)
  refine WE.next ?_
  refine WC.seq ?_
  refine WC.region ?_
  refine WL.val (.slice ra n rc) rfl rfl rfl (fun za zC zh zk => wp_move rfl (zh.ev rfl) zk) ?_
  refine WL.val (.int .i64 (((n : Nat) : Int))) rfl rfl rfl (fun za zC zh zk => len_71 rfl (zh.ev rfl) zk) ?_
  refine WL.val (.int .i64 (((n : Nat) : Int))) rfl rfl rfl (fun za zC zh zk => wp_assign rfl (zh.ev rfl) zk) ?_
  refine WL.nil (WE.sub (K' := [(0, .agg #[.int .i64 f, .slice a l.length c]), (1, .slice ra n rc), (2, .pointer (some ⟨g2, 0, none⟩)), (4, .slice none 0 0), (5, .int .i64 (((n : Nat) : Int)))]) ⟨rfl, rfl, rfl, rfl, rfl, trivial⟩ ?_)
  refine WE.next ?_
  refine WC.seq ?_
  refine WC.region ?_
  refine WL.val (.slice ra n rc) rfl rfl rfl (fun za zC zh zk => wp_move rfl (zh.ev rfl) zk) ?_
  refine WL.val (.agg #[.int .i64 f, .slice a l.length c]) rfl rfl rfl (fun za zC zh zk => ld_27 rfl (zh.ev rfl) ((hB4.cell 0).trans rfl) ((hB4.cell 1).trans rfl) zk) ?_
  refine WL.val (.agg #[.int .i64 f, .slice a l.length c, .slice none 0 0]) rfl rfl rfl (fun za zC zh zk => build_86_0 rfl (zh.ev rfl) zk) ?_
  refine WL.step (post := NewRow w1 86 #[.int .i64 f, .slice a l.length c, .slice none 0 0] 1) rfl rfl rfl (fun za zC zh zk => row_71_1 rfl (zh.ev rfl) (zk _ _ (newRow _ _ _ _))) ?_
  rintro _ w8 ⟨g9, rfl, hg10, hB11, hb12, hz13⟩
  have hl14 : g2 < g9 := by have z1 := hB4.lt; omega
  have hb15 : Below w0.heap.size w0 w1 := (bstep hb0 hb5)
  have hl16 : w0.heap.size ≤ g9 := by have z2 := (hb15).size; omega
  have hw17 : w.heap.size ≤ w8.heap.size := (Nat.le_trans hb5.size hb12.size)
  have hb19 : Below w.heap.size w w8 := (bstep hb5 hb12)
  have hO18 := hO.below hb19
  have hl20 : g2 < w8.heap.size := by have z1 := hB4.lt; have z2 := (hb12).size; omega
  have hl21 : g9 < w8.heap.size := by have z1 := hB11.lt; omega
  have hb23 : Below w0.heap.size w0 w8 := (bstep hb0 hb19)
  have hl22 : w0.heap.size ≤ w8.heap.size := (hb23).size
  refine WL.step (post := fun v w' => ∃ ra rc, v = .slice ra (n + 1) rc ∧ Own w' (fun g => (g = bm ∧ g < lo) ∨ g = w8.heap.size) 86 3 ra rc (n + 1) (xs ++ [.int .i64 f, .slice a l.length c, .slice none 0 0]) ∧ Chg (fun g => (g = bm ∧ g < lo) ∨ g = w8.heap.size) w8 w') rfl rfl rfl (fun za zC zh zk => app_71 (S := (fun g => (g = bm ∧ g < lo) ∨ g = w8.heap.size)) (xs := xs) (news := [.int .i64 f, .slice a l.length c, .slice none 0 0]) rfl (zh.ev rfl) (zh.ev rfl) (own_mono hO18 (fun b h => .inl h)) (SrcIs.ofBlk hB11) (by simp) (by simp [Value.oneCell']) (by omega) (by omega) (by omega) (fun ra rc w' h1 h2 => zk _ _ ⟨ra, rc, rfl, h1, h2⟩)) ?_
  rintro _ w24 ⟨ra25, rc26, rfl, hr27, hc28⟩
  have hB29 := hB4.below hb12
  have hb30 := chg_below hb23 hc28 (fun b hb => (by (try dsimp only at *); omega))
  have hB31 := chg_blk hB29 hc28 (by (try dsimp only at *); omega)
  have hB32 := chg_blk hB11 hc28 (by (try dsimp only at *); omega)
  obtain ⟨bb33, hS34, rfl, hlt35, hA36⟩ := own_pick hr27 (by omega)
  try dsimp only at hS34
  have hst37 : LaySt 86 w0 w.heap.size n xs f a c l bb33 rc26 none 0 0 0 [] 0 0 w24 := LaySt.start hA36 hlt35
  refine WL.val (.slice ((some ⟨bb33, 0, none⟩)) ((n + 1)) rc26) rfl rfl rfl (fun za zC zh zk => wp_assign rfl (zh.ev rfl) zk) ?_
  refine WL.nil (WE.sub (K' := [(0, .agg #[.int .i64 f, .slice a l.length c]), (1, .slice ((some ⟨bb33, 0, none⟩)) ((n + 1)) rc26), (2, .pointer (some ⟨g2, 0, none⟩)), (4, .slice none 0 0), (5, .int .i64 (((n : Nat) : Int)))]) ⟨rfl, rfl, rfl, rfl, rfl, trivial⟩ ?_)
  refine WE.next ?_
  refine WC.seq ?_
  refine WC.seq ?_
  refine WC.region ?_
  refine WL.val (.pointer (some ⟨g2, 1, none⟩)) rfl rfl rfl (fun za zC zh zk => fld_27_1 rfl (zh.ev rfl) zk) ?_
  refine WL.val (.slice a l.length c) rfl rfl rfl (fun za zC zh zk => ld_25 rfl (zh.ev rfl) ((hB31.cell 1).trans rfl) zk) ?_
  refine WL.val (.int .i64 (((l.length : Nat) : Int))) rfl rfl rfl (fun za zC zh zk => len_25 rfl (zh.ev rfl) zk) ?_
  refine WL.val (.int .i64 0) rfl rfl rfl (fun za zC zh zk => wp_move rfl (zh.ev rfl) zk) ?_
  refine WL.nil (WE.sub (K' := [(0, .agg #[.int .i64 f, .slice a l.length c]), (1, .slice ((some ⟨bb33, 0, none⟩)) ((n + 1)) rc26), (2, .pointer (some ⟨g2, 0, none⟩)), (4, .slice none 0 0), (5, .int .i64 (((n : Nat) : Int))), (16, .slice a l.length c), (17, .int .i64 (((l.length : Nat) : Int))), (18, .int .i64 0)]) ⟨rfl, rfl, rfl, rfl, rfl, rfl, rfl, rfl, trivial⟩ ?_)
  refine WE.next ?_
  refine WC.block ?_
  refine WC.loop (X := LayX) (fun x => l.length - x.k) (fun x => [(0, .agg #[.int .i64 f, .slice a l.length c]), (1, .slice ((some ⟨x.bm, 0, none⟩)) ((n + 1 + T.sizeL (l.take x.k))) x.rc), (2, .pointer (some ⟨g2, 0, none⟩)), (4, .slice none 0 0), (5, .int .i64 (((n : Nat) : Int))), (16, .slice a l.length c), (17, .int .i64 (((l.length : Nat) : Int))), (18, .int .i64 (((x.k : Nat) : Int)))]) (fun x w38 => x.k ≤ l.length ∧ LaySt 86 w0 w.heap.size n xs f a c l x.bm x.rc x.xa x.xz x.ba x.la x.ys x.k x.k w38 ∧ ((x.bm = bm ∧ x.bm < lo) ∨ w.heap.size ≤ x.bm) ∧ g2 ≠ x.bm ∧ ¬ (g2 = x.ba ∧ g2 < x.la) ∧ Below w0.heap.size w0 w38 ∧ Blk w38 g2 27 #[.int .i64 f, .slice a l.length c] ∧ Chg ((fun g => g = bm ∧ g < lo)) w w38) (⟨bb33, rc26, none, 0, 0, 0, [], 0⟩) ⟨rfl, rfl, rfl, rfl, rfl, rfl, rfl, rfl, trivial⟩ ?_ ?_
  · have hs39 : Chg ((fun g => g = bm ∧ g < lo)) w w24 := (Chg.trans2 (Chg.trans2 (Chg.refl ((fun g => g = bm ∧ g < lo)) _) (Chg.ofBelow (S := fun k => k < 0) hb19) (fun i h1 h2 => by (try dsimp only at *); omega)) hc28 (fun i h1 h2 => by (try dsimp only at *); omega))
    exact ⟨Nat.zero_le _, (hst37.below (Below.refl _ _)), by dsimp only; omega, by dsimp only; omega, by dsimp only; omega, hb30, hB31, hs39⟩
  · rintro x w38 ⟨hk, hst, hor, hg1, hg2, hb40, hB41, hc42⟩
    have hlt := hst.lt
    have hla := hst.hla
    have hne := hst.ne
    have hba := hst.hba
    have hsz : w.heap.size ≤ w38.heap.size := hc42.size
    have hzk : x.k < l.length → T.sizeL (l.take x.k) + (tget l x.k).size ≤ T.sizeL l := size_take_tget
    have hzt := T.sizeL_take_le l x.k
    refine WC.seq ?_
    refine WC.region ?_
    refine WL.val (.bool ((decide ((((x.k : Nat) : Int) : Int) < (((l.length : Nat) : Int) : Int))))) rfl rfl rfl (fun za zC zh zk => lss_3 rfl (zh.ev rfl) (zh.ev rfl) zk) ?_
    refine WL.nil (WE.sub (K' := [(0, .agg #[.int .i64 f, .slice a l.length c]), (1, .slice ((some ⟨x.bm, 0, none⟩)) ((n + 1 + T.sizeL (l.take x.k))) x.rc), (2, .pointer (some ⟨g2, 0, none⟩)), (4, .slice none 0 0), (5, .int .i64 (((n : Nat) : Int))), (16, .slice a l.length c), (17, .int .i64 (((l.length : Nat) : Int))), (18, .int .i64 (((x.k : Nat) : Int))), (19, .bool ((decide ((((x.k : Nat) : Int) : Int) < (((l.length : Nat) : Int) : Int)))))]) ⟨rfl, rfl, rfl, rfl, rfl, rfl, rfl, rfl, rfl, trivial⟩ ?_)
    refine WE.next ?_
    refine WC.seq ?_
    refine WC.cond rfl (fun h43 => ?_) (fun h43 => ?_)
    · have h43 : (((x.k : Nat) : Int) : Int) < (((l.length : Nat) : Int) : Int) := by simpa using h43
      refine WC.skip ?_
      refine WE.next ?_
      refine WC.seq ?_
      refine WC.block ?_
      refine WC.seq ?_
      refine WC.region ?_
      obtain ⟨b44, o45, A46, C47, ha48, hc49⟩ := IsTs.open hl
      refine WL.val (.pointer (some ⟨b44, o45 + x.k * 2, none⟩)) rfl rfl rfl (fun za zC zh zk => ix_25 (k := x.k) rfl (zh.ev rfl) (ha48 x.k (by first | omega | (simp; omega))) (zh.ev rfl) (by first | omega | (simp; omega)) zk) ?_
      refine WL.val (.agg #[.int .i64 ((tget l x.k).f), .slice ((A46 x.k)) ((tget l x.k).args.length) ((C47 x.k))]) rfl rfl rfl (fun za zC zh zk => ld_27 rfl (zh.ev rfl) (bkeeps hb40 _ _ (hc49 x.k (by first | omega | (simp; omega))).1) (bkeeps hb40 _ _ (hc49 x.k (by first | omega | (simp; omega))).2.1) zk) ?_
      refine WL.step (post := NewBlk w38 27 #[.int .i64 0, .slice none 0 0]) rfl rfl rfl (fun za zC zh zk => alloc_27 rfl (zk _ _ (newBlk _ _ _))) ?_
      rintro _ w50 ⟨g51, rfl, hg52, hB53, hb54, hz55⟩
      have hl56 : g2 < g51 := by have z1 := hB41.lt; omega
      have hl57 : w.heap.size ≤ g51 := by have z2 := hc42.size; omega
      have hl58 : w0.heap.size ≤ g51 := by have z2 := (hb40).size; omega
      have hl59 : w38.heap.size ≤ g51 := by omega
      refine WL.step (post := fun _ w' => Upd g51 w50 w' ∧ Blk w' g51 27 #[.int .i64 ((tget l x.k).f), .slice ((A46 x.k)) ((tget l x.k).args.length) ((C47 x.k))]) rfl rfl rfl (fun za zC zh zk => st_27 rfl (zh.ev rfl) (zh.ev rfl) rfl rfl hB53 (by first | decide | simp) (fun v => zk v _ ⟨(Upd.at_ _ _ _ _).trans (Upd.at_ _ _ _ _), (hB53.set_ 0 _).set_ 1 _⟩)) ?_
      rintro v63 w60 ⟨hu61, hB62⟩
      have hb64 : Below w0.heap.size w0 w50 := (bstep hb40 hb54)
      have hb65 := upd_below hb64 hu61 (by omega)
      have hb66 := upd_below hb54 hu61 (by omega)
      have hB67 := hB41.below hb54
      have hB68 := upd_blk hB67 hu61 (by omega)
      refine WL.nil (WE.sub (K' := [(0, .agg #[.int .i64 f, .slice a l.length c]), (1, .slice ((some ⟨x.bm, 0, none⟩)) ((n + 1 + T.sizeL (l.take x.k))) x.rc), (2, .pointer (some ⟨g2, 0, none⟩)), (4, .slice none 0 0), (5, .int .i64 (((n : Nat) : Int))), (7, .pointer (some ⟨g51, 0, none⟩)), (16, .slice a l.length c), (17, .int .i64 (((l.length : Nat) : Int))), (18, .int .i64 (((x.k : Nat) : Int))), (19, .bool ((decide ((((x.k : Nat) : Int) : Int) < (((l.length : Nat) : Int) : Int)))))]) ⟨rfl, rfl, rfl, rfl, rfl, rfl, rfl, rfl, rfl, rfl, trivial⟩ ?_)
      refine WE.next ?_
      refine WC.seq ?_
      refine WC.region ?_
      refine WL.val (.slice ((some ⟨x.bm, 0, none⟩)) ((n + 1 + T.sizeL (l.take x.k))) x.rc) rfl rfl rfl (fun za zC zh zk => wp_move rfl (zh.ev rfl) zk) ?_
      refine WL.val (.int .i64 (((n : Nat) : Int))) rfl rfl rfl (fun za zC zh zk => wp_move rfl (zh.ev rfl) zk) ?_
      refine WL.val (.slice ((some ⟨x.bm, 0, none⟩)) ((n + 1 + T.sizeL (l.take x.k))) x.rc) rfl rfl rfl (fun za zC zh zk => wp_move rfl (zh.ev rfl) zk) ?_
      refine WL.val (.int .i64 (((n : Nat) : Int))) rfl rfl rfl (fun za zC zh zk => wp_move rfl (zh.ev rfl) zk) ?_
      refine WL.val (.pointer (some ⟨x.bm, 0 + n * 3, none⟩)) rfl rfl rfl (fun za zC zh zk => ix_71 (k := n) rfl (zh.ev rfl) rfl (zh.ev rfl) (by first | omega | (simp; omega)) zk) ?_
      refine WL.val (.pointer (some ⟨x.bm, 0 + n * 3 + 2, none⟩)) rfl rfl rfl (fun za zC zh zk => fld_86_1 rfl (zh.ev rfl) zk) ?_
      refine WL.val (.slice x.xa x.k x.xz) rfl rfl rfl (fun za zC zh zk => ld_22 rfl (zh.ev rfl) (own_cell (hst.below hb66).main (lay_cell hxl)) zk) ?_
      refine WL.val (.slice ((some ⟨x.bm, 0, none⟩)) ((n + 1 + T.sizeL (l.take x.k))) x.rc) rfl rfl rfl (fun za zC zh zk => wp_move rfl (zh.ev rfl) zk) ?_
      refine WL.val (.int .i64 ((((n + 1 + T.sizeL (l.take x.k)) : Nat) : Int))) rfl rfl rfl (fun za zC zh zk => len_71 rfl (zh.ev rfl) zk) ?_
      refine WL.step (post := NewRow w60 3 #[.int .i64 ((((n + 1 + T.sizeL (l.take x.k)) : Nat) : Int))] 1) rfl rfl rfl (fun za zC zh zk => row_22_1 rfl (zh.ev rfl) (zk _ _ (newRow _ _ _ _))) ?_
      rintro _ w69 ⟨g70, rfl, hg71, hB72, hb73, hz74⟩
      have hl75 : g2 < g70 := by have z1 := hB68.lt; omega
      have hl76 : g51 < g70 := by have z1 := hB62.lt; omega
      have hl77 : w.heap.size ≤ g70 := by have z2 := (Nat.le_trans hc42.size hb66.size); omega
      have hl78 : w0.heap.size ≤ g70 := by have z2 := (hb65).size; omega
      have hl79 : w38.heap.size ≤ g70 := by have z2 := (hb66).size; omega
      have hb81 : Below w38.heap.size w38 w69 := (bstep hb66 hb73)
      have hst80 := hst.below hb81
      have hl82 := hst80.lt
      have hl83 := hst80.hla
      have hw84 : w.heap.size ≤ w69.heap.size := (Nat.le_trans hc42.size hb81.size)
      have hl85 : g2 < w69.heap.size := by have z1 := hB68.lt; have z2 := (hb73).size; omega
      have hl86 : g51 < w69.heap.size := by have z1 := hB62.lt; have z2 := (hb73).size; omega
      have hl87 : g70 < w69.heap.size := by have z1 := hB72.lt; omega
      have hb89 : Below w0.heap.size w0 w69 := (bstep hb40 hb81)
      have hl88 : w0.heap.size ≤ w69.heap.size := (hb89).size
      refine WL.step (post := fun v w' => ∃ ra rc, v = .slice ra (x.k + 1) rc ∧ Own w' (fun g => (g = x.ba ∧ g < x.la) ∨ g = w69.heap.size) 3 1 ra rc (x.k + 1) (((kids (l.take x.k) (n + 1)).map natV) ++ [.int .i64 ((((n + 1 + T.sizeL (l.take x.k)) : Nat) : Int))]) ∧ Chg (fun g => (g = x.ba ∧ g < x.la) ∨ g = w69.heap.size) w69 w') rfl rfl rfl (fun za zC zh zk => app_22 (S := (fun g => (g = x.ba ∧ g < x.la) ∨ g = w69.heap.size)) (xs := ((kids (l.take x.k) (n + 1)).map natV)) (news := [.int .i64 ((((n + 1 + T.sizeL (l.take x.k)) : Nat) : Int))]) rfl (zh.ev rfl) (zh.ev rfl) (own_mono hst80.args (fun b h => .inl h)) (SrcIs.ofBlk hB72) (by simp) (by simp [Value.oneCell']) (by omega) (by omega) (by omega) (fun ra rc w' h1 h2 => zk _ _ ⟨ra, rc, rfl, h1, h2⟩)) ?_
      rintro _ w90 ⟨ra91, rc92, rfl, hr93, hc94⟩
      have hB95 := hB68.below hb73
      have hB96 := hB62.below hb73
      have hb97 := chg_below hb89 hc94 (fun b hb => (by (try dsimp only at *); omega))
      have hB98 := chg_blk hB95 hc94 (by (try dsimp only at *); omega)
      have hB99 := chg_blk hB96 hc94 (by (try dsimp only at *); omega)
      have hB100 := chg_blk hB72 hc94 (by (try dsimp only at *); omega)
      obtain ⟨bb101, hS102, rfl, hlt103, hA104⟩ := own_pick hr93 (by omega)
      try dsimp only at hS102
      refine WL.val (.pointer (some ⟨x.bm, 0 + n * 3, none⟩)) rfl rfl rfl (fun za zC zh zk => ix_71 (k := n) rfl (zh.ev rfl) rfl (zh.ev rfl) (by first | omega | (simp; omega)) zk) ?_
      refine WL.val (.pointer (some ⟨x.bm, 0 + n * 3 + 2, none⟩)) rfl rfl rfl (fun za zC zh zk => fld_86_1 rfl (zh.ev rfl) zk) ?_
      have hM105 := hst80.main.chg hc94 (fun b hb => by omega)
      obtain ⟨cur106, hB107, hcs108⟩ := own_blk hM105
      refine WL.step (post := fun _ w' => w' = w90.setCell ⟨x.bm, 0 + n * 3 + 2, none⟩ (.slice ((some ⟨bb101, 0, none⟩)) ((x.k + 1)) rc92)) rfl rfl rfl (fun za zC zh zk => st_22 rfl (zh.ev rfl) (zh.ev rfl) hB107 (by omega) (fun v => zk v _ rfl)) ?_
      rintro v109 w110 hw111
      have hst113 := LaySt.app hst80 hxl hc94 (by omega) hA104 hS102 hlt103 rfl (by omega) hw111
      have hu112 : Upd x.bm w90 w110 := by rw [hw111]; exact Upd.at_ _ _ _ _
      have hb114 := upd_below hb97 hu112 (by omega)
      have hB115 := upd_blk hB98 hu112 (by omega)
      have hB116 := upd_blk hB99 hu112 (by omega)
      have hB117 := upd_blk hB100 hu112 (by omega)
      have hl118 := hst113.lt
      refine WL.nil (WE.sub (K' := [(0, .agg #[.int .i64 f, .slice a l.length c]), (1, .slice ((some ⟨x.bm, 0, none⟩)) ((n + 1 + T.sizeL (l.take x.k))) x.rc), (2, .pointer (some ⟨g2, 0, none⟩)), (4, .slice none 0 0), (5, .int .i64 (((n : Nat) : Int))), (7, .pointer (some ⟨g51, 0, none⟩)), (16, .slice a l.length c), (17, .int .i64 (((l.length : Nat) : Int))), (18, .int .i64 (((x.k : Nat) : Int))), (19, .bool ((decide ((((x.k : Nat) : Int) : Int) < (((l.length : Nat) : Int) : Int)))))]) ⟨rfl, rfl, rfl, rfl, rfl, rfl, rfl, rfl, rfl, rfl, trivial⟩ ?_)
      refine WE.next ?_
      refine WC.region ?_
      refine WL.val (.agg #[.int .i64 ((tget l x.k).f), .slice ((A46 x.k)) ((tget l x.k).args.length) ((C47 x.k))]) rfl rfl rfl (fun za zC zh zk => ld_27 rfl (zh.ev rfl) ((hB116.cell 0).trans rfl) ((hB116.cell 1).trans rfl) zk) ?_
      refine WL.val (.slice ((some ⟨x.bm, 0, none⟩)) ((n + 1 + T.sizeL (l.take x.k))) x.rc) rfl rfl rfl (fun za zC zh zk => wp_move rfl (zh.ev rfl) zk) ?_
      have hst119 := hst113.below (Below.refl _ _)
      have hl120 := hst119.lt
      have hw121 : w.heap.size ≤ w110.heap.size := (Nat.le_trans (Nat.le_trans (Nat.le_trans hc42.size hb81.size) hc94.size) (Nat.le_of_eq hu112.size.symm))
      refine WL.call rfl rfl rfl (fun za zh zC => wp_call (by kernel_rfl) rfl (hv2 (zh.ev rfl) (zh.ev rfl))) (ih (tget l x.k) (tget_mem (by omega)) w0 _ _ _ _ _ x.bm (x.bm + 1) _ hb114 (hc49 x.k (by first | omega | (simp; omega))).2.2 (own_mono hst119.main (fun b h => ⟨h, by omega⟩)) (by omega) (by omega) (by omega)) ?_
      rintro v122 w130 hP123
      obtain ⟨bm124, rc125, ys126, rfl, hst127, hc128, ho129⟩ := LaySt.call hst119 hw121 (by omega) hP123
      have hl131 := hB115.lt
      have hl132 := hB116.lt
      have hl133 := hB117.lt
      have hb134 := chg_below hb114 hc128 (fun b hb => (by (try dsimp only at *); omega))
      have hB135 := chg_blk hB115 hc128 (by (try dsimp only at *); omega)
      have hB136 := chg_blk hB116 hc128 (by (try dsimp only at *); omega)
      have hB137 := chg_blk hB117 hc128 (by (try dsimp only at *); omega)
      have hl138 := hst127.lt
      have hl139 := hst127.hla
      have hl140 := hst127.hba
      refine WL.val (.slice ((some ⟨bm124, 0, none⟩)) ((n + 1 + T.sizeL (l.take (x.k + 1)))) rc125) rfl rfl rfl (fun za zC zh zk => wp_assign rfl (zh.ev rfl) zk) ?_
      refine WL.nil (WE.sub (K' := [(0, .agg #[.int .i64 f, .slice a l.length c]), (1, .slice ((some ⟨bm124, 0, none⟩)) ((n + 1 + T.sizeL (l.take (x.k + 1)))) rc125), (2, .pointer (some ⟨g2, 0, none⟩)), (4, .slice none 0 0), (5, .int .i64 (((n : Nat) : Int))), (7, .pointer (some ⟨g51, 0, none⟩)), (16, .slice a l.length c), (17, .int .i64 (((l.length : Nat) : Int))), (18, .int .i64 (((x.k : Nat) : Int))), (19, .bool ((decide ((((x.k : Nat) : Int) : Int) < (((l.length : Nat) : Int) : Int)))))]) ⟨rfl, rfl, rfl, rfl, rfl, rfl, rfl, rfl, rfl, rfl, trivial⟩ ?_)
      refine WE.blockNormal ?_
      refine WE.next ?_
      refine WC.region ?_
      refine WL.val (.int .i64 ((((x.k + 1) : Nat) : Int))) rfl rfl rfl (fun za zC zh zk => addb_3 rfl (zh.ev rfl) (zh.ev rfl) (wrap_eq (by omega) (by omega) (by omega)) zk) ?_
      refine WL.val (.int .i64 ((((x.k + 1) : Nat) : Int))) rfl rfl rfl (fun za zC zh zk => wp_move rfl (zh.ev rfl) zk) ?_
      refine WL.nil (WE.sub (K' := [(0, .agg #[.int .i64 f, .slice a l.length c]), (1, .slice ((some ⟨bm124, 0, none⟩)) ((n + 1 + T.sizeL (l.take (x.k + 1)))) rc125), (2, .pointer (some ⟨g2, 0, none⟩)), (4, .slice none 0 0), (5, .int .i64 (((n : Nat) : Int))), (7, .pointer (some ⟨g51, 0, none⟩)), (16, .slice a l.length c), (17, .int .i64 (((l.length : Nat) : Int))), (18, .int .i64 ((((x.k + 1) : Nat) : Int))), (19, .bool ((decide ((((x.k : Nat) : Int) : Int) < (((l.length : Nat) : Int) : Int)))))]) ⟨rfl, rfl, rfl, rfl, rfl, rfl, rfl, rfl, rfl, rfl, trivial⟩ ?_)
      refine WE.round (⟨bm124, rc125, (some ⟨bb101, 0, none⟩), rc92, bb101, (bb101 + 1), ys126, x.k + 1⟩) ⟨rfl, rfl, rfl, rfl, rfl, rfl, rfl, rfl, trivial⟩ ?_ ?_
      · have hs141 : Chg ((fun g => g = bm ∧ g < lo)) w w130 := (Chg.trans2 (Chg.trans2 (Chg.trans2 (Chg.trans2 (Chg.trans2 (Chg.refl ((fun g => g = bm ∧ g < lo)) _) hc42 (fun i h1 h2 => by (try dsimp only at *); omega)) (Chg.ofBelow (S := fun k => k < 0) hb81) (fun i h1 h2 => by (try dsimp only at *); omega)) hc94 (fun i h1 h2 => by (try dsimp only at *); omega)) (Chg.ofUpd (S := fun k => k = x.bm) hu112 rfl) (fun i h1 h2 => by (try dsimp only at *); omega)) hc128 (fun i h1 h2 => by (try dsimp only at *); omega))
        exact ⟨by dsimp only; omega, (hst127.below (Below.refl _ _)), by dsimp only; omega, by dsimp only; omega, by dsimp only; omega, hb134, hB135, hs141⟩
      · dsimp only; omega
    · have h43 : ¬ ((((x.k : Nat) : Int) : Int) < (((l.length : Nat) : Int) : Int)) := by simpa using h43
      refine WC.exit ?_
      refine WE.thenExit ?_
      refine WE.thenExit ?_
      refine WE.blockIs rfl ?_
      refine WE.next ?_
      refine WC.seq ?_
      refine WC.region ?_
      refine WL.val (.slice ((some ⟨x.bm, 0, none⟩)) ((n + 1 + T.sizeL (l.take x.k))) x.rc) rfl rfl rfl (fun za zC zh zk => wp_move rfl (zh.ev rfl) zk) ?_
      refine WL.val (.slice ((some ⟨x.bm, 0, none⟩)) ((n + 1 + T.sizeL (l.take x.k))) x.rc) rfl rfl rfl (fun za zC zh zk => wp_assign rfl (zh.ev rfl) zk) ?_
      refine WL.nil (WE.sub (K' := [(0, .agg #[.int .i64 f, .slice a l.length c]), (1, .slice ((some ⟨x.bm, 0, none⟩)) ((n + 1 + T.sizeL (l.take x.k))) x.rc), (2, .pointer (some ⟨g2, 0, none⟩)), (4, .slice ((some ⟨x.bm, 0, none⟩)) ((n + 1 + T.sizeL (l.take x.k))) x.rc), (5, .int .i64 (((n : Nat) : Int))), (16, .slice a l.length c), (17, .int .i64 (((l.length : Nat) : Int))), (18, .int .i64 (((x.k : Nat) : Int))), (19, .bool ((decide ((((x.k : Nat) : Int) : Int) < (((l.length : Nat) : Int) : Int)))))]) ⟨rfl, rfl, rfl, rfl, rfl, rfl, rfl, rfl, rfl, trivial⟩ ?_)
      refine WE.next ?_
      refine WC.ret ?_
      refine WE.ret1 rfl rfl ?_
      have hs142 : Chg ((fun g => g = bm ∧ g < lo)) w w38 := (Chg.trans2 (Chg.refl ((fun g => g = bm ∧ g < lo)) _) hc42 (fun i h1 h2 => by (try dsimp only at *); omega))
      exact ⟨_, rfl, LaySt.done (hst.below (Below.refl _ _)) hT0 (by omega) (by omega) hs142 hor⟩

set_option maxRecDepth 100000 in
theorem flat_any (t : T) : ∀ (w0 w : World) (v : Value) (ra : Option Addr) (rc n bm lo : Nat) (xs : List Value), Below w0.heap.size w0 w → IsT w0 t v → Own w (fun g => g = bm ∧ g < lo) 84 3 ra rc n xs → lo ≤ w.heap.size → w0.heap.size ≤ bm → n + t.size ≤ 4294967296 →
    Calls Try.prog 33 #[v, .slice ra n rc] w (Ret (LayP 84 w0 w bm lo n xs t)) := by
  induction t using T.ind with
  | h f l ih =>
  intro w0 w v ra rc n bm lo xs hb0 hT hO hlo hbm hz
  have hT0 := hT
  obtain ⟨_, a, c, rfl, hc, hm, hl⟩ := hT
  unfold maxLen at hm
  rw [T.size] at hz
  have hll := len_le_sizeL l
  have hxl := own_len hO
  have hw0 := hb0.size
  refine Calls.walk (l := [.agg #[.int .i64 f, .slice a l.length c], .slice ra n rc]) Try.func33 rfl (by kernel_rfl) ?_
  refine WC.sub (K' := [(0, .agg #[.int .i64 f, .slice a l.length c]), (1, .slice ra n rc)]) ⟨rfl, rfl, trivial⟩ ?_
  refine WC.seq ?_
  refine WC.region ?_
  refine WL.step (post := NewBlk w 27 #[.int .i64 f, .slice a l.length c]) rfl rfl rfl (fun za zC zh zk => box_27 rfl (zh.ev rfl) (zk _ _ (newBlk _ _ _))) ?_
  rintro _ w1 ⟨g2, rfl, hg3, hB4, hb5, hz6⟩
  have hl7 : w0.heap.size ≤ g2 := by have z2 := (hb0).size; omega
  refine WL.val (.slice none 0 0) rfl rfl rfl (fun za zC zh zk => wp_assign rfl (zh.ev rfl) zk) ?_
  refine WL.nil (WE.sub (K' := [(0, .agg #[.int .i64 f, .slice a l.length c]), (1, .slice ra n rc), (2, .pointer (some ⟨g2, 0, none⟩)), (4, .slice none 0 0)]) ⟨rfl, rfl, rfl, rfl, trivial⟩ ?_)
  refine WE.next ?_
  refine WC.seq ?_
  refine WC.region ?_
  refine WL.val (.slice ra n rc) rfl rfl rfl (fun za zC zh zk => wp_move rfl (zh.ev rfl) zk) ?_
  refine WL.val (.int .i64 (((n : Nat) : Int))) rfl rfl rfl (fun za zC zh zk => len_63 rfl (zh.ev rfl) zk) ?_
  refine WL.val (.int .i64 (((n : Nat) : Int))) rfl rfl rfl (fun za zC zh zk => wp_assign rfl (zh.ev rfl) zk) ?_
  refine WL.nil (WE.sub (K' := [(0, .agg #[.int .i64 f, .slice a l.length c]), (1, .slice ra n rc), (2, .pointer (some ⟨g2, 0, none⟩)), (4, .slice none 0 0), (5, .int .i64 (((n : Nat) : Int)))]) ⟨rfl, rfl, rfl, rfl, rfl, trivial⟩ ?_)
  refine WE.next ?_
  refine WC.seq ?_
  refine WC.region ?_
  refine WL.val (.slice ra n rc) rfl rfl rfl (fun za zC zh zk => wp_move rfl (zh.ev rfl) zk) ?_
  refine WL.val (.agg #[.int .i64 f, .slice a l.length c]) rfl rfl rfl (fun za zC zh zk => ld_27 rfl (zh.ev rfl) ((hB4.cell 0).trans rfl) ((hB4.cell 1).trans rfl) zk) ?_
  refine WL.val (.agg #[.int .i64 f, .slice a l.length c, .slice none 0 0]) rfl rfl rfl (fun za zC zh zk => build_84_0 rfl (zh.ev rfl) zk) ?_
  refine WL.step (post := NewRow w1 84 #[.int .i64 f, .slice a l.length c, .slice none 0 0] 1) rfl rfl rfl (fun za zC zh zk => row_63_1 rfl (zh.ev rfl) (zk _ _ (newRow _ _ _ _))) ?_
  rintro _ w8 ⟨g9, rfl, hg10, hB11, hb12, hz13⟩
  have hl14 : g2 < g9 := by have z1 := hB4.lt; omega
  have hb15 : Below w0.heap.size w0 w1 := (bstep hb0 hb5)
  have hl16 : w0.heap.size ≤ g9 := by have z2 := (hb15).size; omega
  have hw17 : w.heap.size ≤ w8.heap.size := (Nat.le_trans hb5.size hb12.size)
  have hb19 : Below w.heap.size w w8 := (bstep hb5 hb12)
  have hO18 := hO.below hb19
  have hl20 : g2 < w8.heap.size := by have z1 := hB4.lt; have z2 := (hb12).size; omega
  have hl21 : g9 < w8.heap.size := by have z1 := hB11.lt; omega
  have hb23 : Below w0.heap.size w0 w8 := (bstep hb0 hb19)
  have hl22 : w0.heap.size ≤ w8.heap.size := (hb23).size
  refine WL.step (post := fun v w' => ∃ ra rc, v = .slice ra (n + 1) rc ∧ Own w' (fun g => (g = bm ∧ g < lo) ∨ g = w8.heap.size) 84 3 ra rc (n + 1) (xs ++ [.int .i64 f, .slice a l.length c, .slice none 0 0]) ∧ Chg (fun g => (g = bm ∧ g < lo) ∨ g = w8.heap.size) w8 w') rfl rfl rfl (fun za zC zh zk => app_63 (S := (fun g => (g = bm ∧ g < lo) ∨ g = w8.heap.size)) (xs := xs) (news := [.int .i64 f, .slice a l.length c, .slice none 0 0]) rfl (zh.ev rfl) (zh.ev rfl) (own_mono hO18 (fun b h => .inl h)) (SrcIs.ofBlk hB11) (by simp) (by simp [Value.oneCell']) (by omega) (by omega) (by omega) (fun ra rc w' h1 h2 => zk _ _ ⟨ra, rc, rfl, h1, h2⟩)) ?_
  rintro _ w24 ⟨ra25, rc26, rfl, hr27, hc28⟩
  have hB29 := hB4.below hb12
  have hb30 := chg_below hb23 hc28 (fun b hb => (by (try dsimp only at *); omega))
  have hB31 := chg_blk hB29 hc28 (by (try dsimp only at *); omega)
  have hB32 := chg_blk hB11 hc28 (by (try dsimp only at *); omega)
  obtain ⟨bb33, hS34, rfl, hlt35, hA36⟩ := own_pick hr27 (by omega)
  try dsimp only at hS34
  have hst37 : LaySt 84 w0 w.heap.size n xs f a c l bb33 rc26 none 0 0 0 [] 0 0 w24 := LaySt.start hA36 hlt35
  refine WL.val (.slice ((some ⟨bb33, 0, none⟩)) ((n + 1)) rc26) rfl rfl rfl (fun za zC zh zk => wp_assign rfl (zh.ev rfl) zk) ?_
  refine WL.nil (WE.sub (K' := [(0, .agg #[.int .i64 f, .slice a l.length c]), (1, .slice ((some ⟨bb33, 0, none⟩)) ((n + 1)) rc26), (2, .pointer (some ⟨g2, 0, none⟩)), (4, .slice none 0 0), (5, .int .i64 (((n : Nat) : Int)))]) ⟨rfl, rfl, rfl, rfl, rfl, trivial⟩ ?_)
  refine WE.next ?_
  refine WC.seq ?_
  refine WC.seq ?_
  refine WC.region ?_
  refine WL.val (.int .i64 0) rfl rfl rfl (fun za zC zh zk => wp_assign rfl (zh.ev rfl) zk) ?_
  refine WL.nil (WE.sub (K' := [(0, .agg #[.int .i64 f, .slice a l.length c]), (1, .slice ((some ⟨bb33, 0, none⟩)) ((n + 1)) rc26), (2, .pointer (some ⟨g2, 0, none⟩)), (4, .slice none 0 0), (5, .int .i64 (((n : Nat) : Int))), (6, .int .i64 0)]) ⟨rfl, rfl, rfl, rfl, rfl, rfl, trivial⟩ ?_)
  refine WE.next ?_
  refine WC.block ?_
  refine WC.loop (X := LayX) (fun x => l.length - x.k) (fun x => [(0, .agg #[.int .i64 f, .slice a l.length c]), (1, .slice ((some ⟨x.bm, 0, none⟩)) ((n + 1 + T.sizeL (l.take x.k))) x.rc), (2, .pointer (some ⟨g2, 0, none⟩)), (4, .slice none 0 0), (5, .int .i64 (((n : Nat) : Int))), (6, .int .i64 (((x.k : Nat) : Int)))]) (fun x w38 => x.k ≤ l.length ∧ LaySt 84 w0 w.heap.size n xs f a c l x.bm x.rc x.xa x.xz x.ba x.la x.ys x.k x.k w38 ∧ ((x.bm = bm ∧ x.bm < lo) ∨ w.heap.size ≤ x.bm) ∧ g2 ≠ x.bm ∧ ¬ (g2 = x.ba ∧ g2 < x.la) ∧ Below w0.heap.size w0 w38 ∧ Blk w38 g2 27 #[.int .i64 f, .slice a l.length c] ∧ Chg ((fun g => g = bm ∧ g < lo)) w w38) (⟨bb33, rc26, none, 0, 0, 0, [], 0⟩) ⟨rfl, rfl, rfl, rfl, rfl, rfl, trivial⟩ ?_ ?_
  · have hs39 : Chg ((fun g => g = bm ∧ g < lo)) w w24 := (Chg.trans2 (Chg.trans2 (Chg.refl ((fun g => g = bm ∧ g < lo)) _) (Chg.ofBelow (S := fun k => k < 0) hb19) (fun i h1 h2 => by (try dsimp only at *); omega)) hc28 (fun i h1 h2 => by (try dsimp only at *); omega))
    exact ⟨Nat.zero_le _, (hst37.below (Below.refl _ _)), by dsimp only; omega, by dsimp only; omega, by dsimp only; omega, hb30, hB31, hs39⟩
  · rintro x w38 ⟨hk, hst, hor, hg1, hg2, hb40, hB41, hc42⟩
    have hlt := hst.lt
    have hla := hst.hla
    have hne := hst.ne
    have hba := hst.hba
    have hsz : w.heap.size ≤ w38.heap.size := hc42.size
    have hzk : x.k < l.length → T.sizeL (l.take x.k) + (tget l x.k).size ≤ T.sizeL l := size_take_tget
    have hzt := T.sizeL_take_le l x.k
    refine WC.seq ?_
    refine WC.seq ?_
    refine WC.region ?_
    refine WL.val (.int .i64 (((x.k : Nat) : Int))) rfl rfl rfl (fun za zC zh zk => wp_move rfl (zh.ev rfl) zk) ?_
    refine WL.val (.pointer (some ⟨g2, 1, none⟩)) rfl rfl rfl (fun za zC zh zk => fld_27_1 rfl (zh.ev rfl) zk) ?_
    refine WL.val (.slice a l.length c) rfl rfl rfl (fun za zC zh zk => ld_25 rfl (zh.ev rfl) ((hB41.cell 1).trans rfl) zk) ?_
    refine WL.val (.int .i64 (((l.length : Nat) : Int))) rfl rfl rfl (fun za zC zh zk => len_25 rfl (zh.ev rfl) zk) ?_
    refine WL.val (.bool ((decide ((((x.k : Nat) : Int) : Int) < (((l.length : Nat) : Int) : Int))))) rfl rfl rfl (fun za zC zh zk => lss_3 rfl (zh.ev rfl) (zh.ev rfl) zk) ?_
    refine WL.nil (WE.sub (K' := [(0, .agg #[.int .i64 f, .slice a l.length c]), (1, .slice ((some ⟨x.bm, 0, none⟩)) ((n + 1 + T.sizeL (l.take x.k))) x.rc), (2, .pointer (some ⟨g2, 0, none⟩)), (4, .slice none 0 0), (5, .int .i64 (((n : Nat) : Int))), (6, .int .i64 (((x.k : Nat) : Int))), (19, .bool ((decide ((((x.k : Nat) : Int) : Int) < (((l.length : Nat) : Int) : Int)))))]) ⟨rfl, rfl, rfl, rfl, rfl, rfl, rfl, trivial⟩ ?_)
    refine WE.next ?_
    refine WC.cond rfl (fun h43 => ?_) (fun h43 => ?_)
    · have h43 : (((x.k : Nat) : Int) : Int) < (((l.length : Nat) : Int) : Int) := by simpa using h43
      refine WC.skip ?_
      refine WE.next ?_
      refine WC.seq ?_
      refine WC.block ?_
      refine WC.seq ?_
      refine WC.region ?_
      refine WL.val (.slice ((some ⟨x.bm, 0, none⟩)) ((n + 1 + T.sizeL (l.take x.k))) x.rc) rfl rfl rfl (fun za zC zh zk => wp_move rfl (zh.ev rfl) zk) ?_
      refine WL.val (.int .i64 ((((n + 1 + T.sizeL (l.take x.k)) : Nat) : Int))) rfl rfl rfl (fun za zC zh zk => len_63 rfl (zh.ev rfl) zk) ?_
      refine WL.val (.int .i64 ((((n + 1 + T.sizeL (l.take x.k)) : Nat) : Int))) rfl rfl rfl (fun za zC zh zk => wp_assign rfl (zh.ev rfl) zk) ?_
      refine WL.nil (WE.sub (K' := [(0, .agg #[.int .i64 f, .slice a l.length c]), (1, .slice ((some ⟨x.bm, 0, none⟩)) ((n + 1 + T.sizeL (l.take x.k))) x.rc), (2, .pointer (some ⟨g2, 0, none⟩)), (4, .slice none 0 0), (5, .int .i64 (((n : Nat) : Int))), (6, .int .i64 (((x.k : Nat) : Int))), (7, .int .i64 ((((n + 1 + T.sizeL (l.take x.k)) : Nat) : Int))), (19, .bool ((decide ((((x.k : Nat) : Int) : Int) < (((l.length : Nat) : Int) : Int)))))]) ⟨rfl, rfl, rfl, rfl, rfl, rfl, rfl, rfl, trivial⟩ ?_)
      refine WE.next ?_
      refine WC.seq ?_
      refine WC.region ?_
      refine WL.val (.pointer (some ⟨g2, 1, none⟩)) rfl rfl rfl (fun za zC zh zk => fld_27_1 rfl (zh.ev rfl) zk) ?_
      refine WL.val (.slice a l.length c) rfl rfl rfl (fun za zC zh zk => ld_25 rfl (zh.ev rfl) ((hB41.cell 1).trans rfl) zk) ?_
      refine WL.val (.int .i64 (((x.k : Nat) : Int))) rfl rfl rfl (fun za zC zh zk => wp_move rfl (zh.ev rfl) zk) ?_
      obtain ⟨b44, o45, A46, C47, ha48, hc49⟩ := IsTs.open hl
      refine WL.val (.pointer (some ⟨b44, o45 + x.k * 2, none⟩)) rfl rfl rfl (fun za zC zh zk => ix_25 (k := x.k) rfl (zh.ev rfl) (ha48 x.k (by first | omega | (simp; omega))) (zh.ev rfl) (by first | omega | (simp; omega)) zk) ?_
      refine WL.val (.agg #[.int .i64 ((tget l x.k).f), .slice ((A46 x.k)) ((tget l x.k).args.length) ((C47 x.k))]) rfl rfl rfl (fun za zC zh zk => ld_27 rfl (zh.ev rfl) (bkeeps hb40 _ _ (hc49 x.k (by first | omega | (simp; omega))).1) (bkeeps hb40 _ _ (hc49 x.k (by first | omega | (simp; omega))).2.1) zk) ?_
      refine WL.val (.slice ((some ⟨x.bm, 0, none⟩)) ((n + 1 + T.sizeL (l.take x.k))) x.rc) rfl rfl rfl (fun za zC zh zk => wp_move rfl (zh.ev rfl) zk) ?_
      have hst50 := hst.below (Below.refl _ _)
      have hl51 := hst50.lt
      have hw52 : w.heap.size ≤ w38.heap.size := hc42.size
      refine WL.call rfl rfl rfl (fun za zh zC => wp_call (by kernel_rfl) rfl (hv2 (zh.ev rfl) (zh.ev rfl))) (ih (tget l x.k) (tget_mem (by omega)) w0 _ _ _ _ _ x.bm (x.bm + 1) _ hb40 (hc49 x.k (by first | omega | (simp; omega))).2.2 (own_mono hst50.main (fun b h => ⟨h, by omega⟩)) (by omega) (by omega) (by omega)) ?_
      rintro v53 w61 hP54
      obtain ⟨bm55, rc56, ys57, rfl, hst58, hc59, ho60⟩ := LaySt.call hst50 hw52 (by omega) hP54
      have hl62 := hB41.lt
      have hb63 := chg_below hb40 hc59 (fun b hb => (by (try dsimp only at *); omega))
      have hB64 := chg_blk hB41 hc59 (by (try dsimp only at *); omega)
      have hl65 := hst58.lt
      have hl66 := hst58.hla
      have hl67 := hst58.hba
      refine WL.val (.slice ((some ⟨bm55, 0, none⟩)) ((n + 1 + T.sizeL (l.take (x.k + 1)))) rc56) rfl rfl rfl (fun za zC zh zk => wp_assign rfl (zh.ev rfl) zk) ?_
      refine WL.nil (WE.sub (K' := [(0, .agg #[.int .i64 f, .slice a l.length c]), (1, .slice ((some ⟨bm55, 0, none⟩)) ((n + 1 + T.sizeL (l.take (x.k + 1)))) rc56), (2, .pointer (some ⟨g2, 0, none⟩)), (4, .slice none 0 0), (5, .int .i64 (((n : Nat) : Int))), (6, .int .i64 (((x.k : Nat) : Int))), (7, .int .i64 ((((n + 1 + T.sizeL (l.take x.k)) : Nat) : Int))), (19, .bool ((decide ((((x.k : Nat) : Int) : Int) < (((l.length : Nat) : Int) : Int)))))]) ⟨rfl, rfl, rfl, rfl, rfl, rfl, rfl, rfl, trivial⟩ ?_)
      refine WE.next ?_
      refine WC.region ?_
      refine WL.val (.slice ((some ⟨bm55, 0, none⟩)) ((n + 1 + T.sizeL (l.take (x.k + 1)))) rc56) rfl rfl rfl (fun za zC zh zk => wp_move rfl (zh.ev rfl) zk) ?_
      refine WL.val (.int .i64 (((n : Nat) : Int))) rfl rfl rfl (fun za zC zh zk => wp_move rfl (zh.ev rfl) zk) ?_
      refine WL.val (.slice ((some ⟨bm55, 0, none⟩)) ((n + 1 + T.sizeL (l.take (x.k + 1)))) rc56) rfl rfl rfl (fun za zC zh zk => wp_move rfl (zh.ev rfl) zk) ?_
      refine WL.val (.int .i64 (((n : Nat) : Int))) rfl rfl rfl (fun za zC zh zk => wp_move rfl (zh.ev rfl) zk) ?_
      refine WL.val (.pointer (some ⟨bm55, 0 + n * 3, none⟩)) rfl rfl rfl (fun za zC zh zk => ix_63 (k := n) rfl (zh.ev rfl) rfl (zh.ev rfl) (by first | omega | (simp; omega)) zk) ?_
      refine WL.val (.pointer (some ⟨bm55, 0 + n * 3 + 2, none⟩)) rfl rfl rfl (fun za zC zh zk => fld_84_1 rfl (zh.ev rfl) zk) ?_
      refine WL.val (.slice x.xa x.k x.xz) rfl rfl rfl (fun za zC zh zk => ld_22 rfl (zh.ev rfl) (own_cell (hst58.below (Below.refl _ _)).main (lay_cell hxl)) zk) ?_
      refine WL.val (.int .i64 ((((n + 1 + T.sizeL (l.take x.k)) : Nat) : Int))) rfl rfl rfl (fun za zC zh zk => wp_move rfl (zh.ev rfl) zk) ?_
      refine WL.step (post := NewRow w61 3 #[.int .i64 ((((n + 1 + T.sizeL (l.take x.k)) : Nat) : Int))] 1) rfl rfl rfl (fun za zC zh zk => row_22_1 rfl (zh.ev rfl) (zk _ _ (newRow _ _ _ _))) ?_
      rintro _ w68 ⟨g69, rfl, hg70, hB71, hb72, hz73⟩
      have hl74 : g2 < g69 := by have z1 := hB64.lt; omega
      have hl75 : w.heap.size ≤ g69 := by have z2 := (Nat.le_trans hc42.size hc59.size); omega
      have hl76 : w0.heap.size ≤ g69 := by have z2 := (hb63).size; omega
      have hl77 : w61.heap.size ≤ g69 := by omega
      have hst78 := hst58.below hb72
      have hl79 := hst78.lt
      have hl80 := hst78.hla
      have hw81 : w.heap.size ≤ w68.heap.size := (Nat.le_trans (Nat.le_trans hc42.size hc59.size) hb72.size)
      have hl82 : g2 < w68.heap.size := by have z1 := hB64.lt; have z2 := (hb72).size; omega
      have hl83 : g69 < w68.heap.size := by have z1 := hB71.lt; omega
      have hb85 : Below w0.heap.size w0 w68 := (bstep hb63 hb72)
      have hl84 : w0.heap.size ≤ w68.heap.size := (hb85).size
      refine WL.step (post := fun v w' => ∃ ra rc, v = .slice ra (x.k + 1) rc ∧ Own w' (fun g => (g = x.ba ∧ g < x.la) ∨ g = w68.heap.size) 3 1 ra rc (x.k + 1) (((kids (l.take x.k) (n + 1)).map natV) ++ [.int .i64 ((((n + 1 + T.sizeL (l.take x.k)) : Nat) : Int))]) ∧ Chg (fun g => (g = x.ba ∧ g < x.la) ∨ g = w68.heap.size) w68 w') rfl rfl rfl (fun za zC zh zk => app_22 (S := (fun g => (g = x.ba ∧ g < x.la) ∨ g = w68.heap.size)) (xs := ((kids (l.take x.k) (n + 1)).map natV)) (news := [.int .i64 ((((n + 1 + T.sizeL (l.take x.k)) : Nat) : Int))]) rfl (zh.ev rfl) (zh.ev rfl) (own_mono hst78.args (fun b h => .inl h)) (SrcIs.ofBlk hB71) (by simp) (by simp [Value.oneCell']) (by omega) (by omega) (by omega) (fun ra rc w' h1 h2 => zk _ _ ⟨ra, rc, rfl, h1, h2⟩)) ?_
      rintro _ w86 ⟨ra87, rc88, rfl, hr89, hc90⟩
      have hB91 := hB64.below hb72
      have hb92 := chg_below hb85 hc90 (fun b hb => (by (try dsimp only at *); omega))
      have hB93 := chg_blk hB91 hc90 (by (try dsimp only at *); omega)
      have hB94 := chg_blk hB71 hc90 (by (try dsimp only at *); omega)
      obtain ⟨bb95, hS96, rfl, hlt97, hA98⟩ := own_pick hr89 (by omega)
      try dsimp only at hS96
      refine WL.val (.pointer (some ⟨bm55, 0 + n * 3, none⟩)) rfl rfl rfl (fun za zC zh zk => ix_63 (k := n) rfl (zh.ev rfl) rfl (zh.ev rfl) (by first | omega | (simp; omega)) zk) ?_
      refine WL.val (.pointer (some ⟨bm55, 0 + n * 3 + 2, none⟩)) rfl rfl rfl (fun za zC zh zk => fld_84_1 rfl (zh.ev rfl) zk) ?_
      have hM99 := hst78.main.chg hc90 (fun b hb => by omega)
      obtain ⟨cur100, hB101, hcs102⟩ := own_blk hM99
      refine WL.step (post := fun _ w' => w' = w86.setCell ⟨bm55, 0 + n * 3 + 2, none⟩ (.slice ((some ⟨bb95, 0, none⟩)) ((x.k + 1)) rc88)) rfl rfl rfl (fun za zC zh zk => st_22 rfl (zh.ev rfl) (zh.ev rfl) hB101 (by omega) (fun v => zk v _ rfl)) ?_
      rintro v103 w104 hw105
      have hst107 := LaySt.app hst78 hxl hc90 (by omega) hA98 hS96 hlt97 rfl (by omega) hw105
      have hu106 : Upd bm55 w86 w104 := by rw [hw105]; exact Upd.at_ _ _ _ _
      have hb108 := upd_below hb92 hu106 (by omega)
      have hB109 := upd_blk hB93 hu106 (by omega)
      have hB110 := upd_blk hB94 hu106 (by omega)
      have hl111 := hst107.lt
      refine WL.nil (WE.sub (K' := [(0, .agg #[.int .i64 f, .slice a l.length c]), (1, .slice ((some ⟨bm55, 0, none⟩)) ((n + 1 + T.sizeL (l.take (x.k + 1)))) rc56), (2, .pointer (some ⟨g2, 0, none⟩)), (4, .slice none 0 0), (5, .int .i64 (((n : Nat) : Int))), (6, .int .i64 (((x.k : Nat) : Int))), (7, .int .i64 ((((n + 1 + T.sizeL (l.take x.k)) : Nat) : Int))), (19, .bool ((decide ((((x.k : Nat) : Int) : Int) < (((l.length : Nat) : Int) : Int)))))]) ⟨rfl, rfl, rfl, rfl, rfl, rfl, rfl, rfl, trivial⟩ ?_)
      refine WE.blockNormal ?_
      refine WE.next ?_
      refine WC.region ?_
      refine WL.val (.int .i64 (((x.k : Nat) : Int))) rfl rfl rfl (fun za zC zh zk => wp_move rfl (zh.ev rfl) zk) ?_
      refine WL.val (.int .i64 ((((x.k + 1) : Nat) : Int))) rfl rfl rfl (fun za zC zh zk => addb_3 rfl (zh.ev rfl) (zh.ev rfl) (wrap_eq (by omega) (by omega) (by omega)) zk) ?_
      refine WL.val (.int .i64 ((((x.k + 1) : Nat) : Int))) rfl rfl rfl (fun za zC zh zk => wp_assign rfl (zh.ev rfl) zk) ?_
      refine WL.nil (WE.sub (K' := [(0, .agg #[.int .i64 f, .slice a l.length c]), (1, .slice ((some ⟨bm55, 0, none⟩)) ((n + 1 + T.sizeL (l.take (x.k + 1)))) rc56), (2, .pointer (some ⟨g2, 0, none⟩)), (4, .slice none 0 0), (5, .int .i64 (((n : Nat) : Int))), (6, .int .i64 ((((x.k + 1) : Nat) : Int))), (7, .int .i64 ((((n + 1 + T.sizeL (l.take x.k)) : Nat) : Int))), (19, .bool ((decide ((((x.k : Nat) : Int) : Int) < (((l.length : Nat) : Int) : Int)))))]) ⟨rfl, rfl, rfl, rfl, rfl, rfl, rfl, rfl, trivial⟩ ?_)
      refine WE.round (⟨bm55, rc56, (some ⟨bb95, 0, none⟩), rc88, bb95, (bb95 + 1), ys57, x.k + 1⟩) ⟨rfl, rfl, rfl, rfl, rfl, rfl, trivial⟩ ?_ ?_
      · have hs112 : Chg ((fun g => g = bm ∧ g < lo)) w w104 := (Chg.trans2 (Chg.trans2 (Chg.trans2 (Chg.trans2 (Chg.trans2 (Chg.refl ((fun g => g = bm ∧ g < lo)) _) hc42 (fun i h1 h2 => by (try dsimp only at *); omega)) hc59 (fun i h1 h2 => by (try dsimp only at *); omega)) (Chg.ofBelow (S := fun k => k < 0) hb72) (fun i h1 h2 => by (try dsimp only at *); omega)) hc90 (fun i h1 h2 => by (try dsimp only at *); omega)) (Chg.ofUpd (S := fun k => k = bm55) hu106 rfl) (fun i h1 h2 => by (try dsimp only at *); omega))
        exact ⟨by dsimp only; omega, (hst107.below (Below.refl _ _)), by dsimp only; omega, by dsimp only; omega, by dsimp only; omega, hb108, hB109, hs112⟩
      · dsimp only; omega
    · have h43 : ¬ ((((x.k : Nat) : Int) : Int) < (((l.length : Nat) : Int) : Int)) := by simpa using h43
      refine WC.exit ?_
      refine WE.thenExit ?_
      refine WE.thenExit ?_
      refine WE.blockIs rfl ?_
      refine WE.next ?_
      refine WC.seq ?_
      refine WC.region ?_
      refine WL.val (.slice ((some ⟨x.bm, 0, none⟩)) ((n + 1 + T.sizeL (l.take x.k))) x.rc) rfl rfl rfl (fun za zC zh zk => wp_move rfl (zh.ev rfl) zk) ?_
      refine WL.val (.slice ((some ⟨x.bm, 0, none⟩)) ((n + 1 + T.sizeL (l.take x.k))) x.rc) rfl rfl rfl (fun za zC zh zk => wp_assign rfl (zh.ev rfl) zk) ?_
      refine WL.nil (WE.sub (K' := [(0, .agg #[.int .i64 f, .slice a l.length c]), (1, .slice ((some ⟨x.bm, 0, none⟩)) ((n + 1 + T.sizeL (l.take x.k))) x.rc), (2, .pointer (some ⟨g2, 0, none⟩)), (4, .slice ((some ⟨x.bm, 0, none⟩)) ((n + 1 + T.sizeL (l.take x.k))) x.rc), (5, .int .i64 (((n : Nat) : Int))), (6, .int .i64 (((x.k : Nat) : Int))), (19, .bool ((decide ((((x.k : Nat) : Int) : Int) < (((l.length : Nat) : Int) : Int)))))]) ⟨rfl, rfl, rfl, rfl, rfl, rfl, rfl, trivial⟩ ?_)
      refine WE.next ?_
      refine WC.ret ?_
      refine WE.ret1 rfl rfl ?_
      have hs113 : Chg ((fun g => g = bm ∧ g < lo)) w w38 := (Chg.trans2 (Chg.refl ((fun g => g = bm ∧ g < lo)) _) hc42 (fun i h1 h2 => by (try dsimp only at *); omega))
      exact ⟨_, rfl, LaySt.done (hst.below (Below.refl _ _)) hT0 (by omega) (by omega) hs113 hor⟩

end Go.Proofs.Ytlkiabgpnboicaa

/- The lexicographic path order of the program: over, Cmp, Above. -/
namespace Go.Proofs.Ytlkiabgpnboicaa
open Go.RowKit Go

mutual
theorem lay_small : ∀ (t : T) (n : Nat), ∀ x ∈ lay t n, x.t.size ≤ t.size
  | .mk f l, n, x, hx => by
    rw [lay, List.mem_cons] at hx
    rcases hx with rfl | hx
    · exact Nat.le_refl _
    · have := layL_small l (n + 1) x hx; rw [T.size]; omega
theorem layL_small : ∀ (l : List T) (n : Nat), ∀ x ∈ layL l n, x.t.size ≤ T.sizeL l
  | [], _, x, hx => by simp [layL] at hx
  | a :: r, n, x, hx => by
    rw [layL, List.mem_append] at hx
    rw [T.sizeL]
    rcases hx with hx | hx
    · have := lay_small a n x hx; omega
    · have := layL_small r _ x hx; omega
end
theorem lpoH_of {o : Od} {s t : T} (hs : o.lknows s = true) (ht : o.lknows t = true) (h1 : s.size ≤ 4294967296) (h2 : t.size ≤ 4294967296) : LpoH o (lay s 0) (lay t 0) :=
  ⟨fun k h => lay0_good s k h, fun k h => lay0_good t k h, fun k h => lay_known o s 0 hs _ (ndget_mem h), fun k h => lay_known o t 0 ht _ (ndget_mem h), fun k h => Nat.le_trans (lay_small s 0 _ (ndget_mem h)) h1, fun k h => Nat.le_trans (lay_small t 0 _ (ndget_mem h)) h2⟩
theorem chg_none {S : Nat → Prop} {w w' : World} (h : Chg S w w') (hS : ∀ k, ¬ S k) : Below w.heap.size w w' := ⟨h.os, h.tape, h.output, h.size, fun k hk => h.block k hk (hS k)⟩
/-- The value is the row of t's parts. -/
def PartsOf (E : Nat) (w0 : World) (t : T) (v : Value) (w : World) : Prop := ∃ (bm rc : Nat) (xs : List Value), v = .slice (some ⟨bm, 0, none⟩) (lay t 0).length rc ∧ Own w (fun g => g = bm) E 3 (some ⟨bm, 0, none⟩) rc (lay t 0).length xs ∧ NdsAt w0 w (fun _ => True) (lay t 0) xs
theorem PartsOf.bel {E : Nat} {w0 w w' : World} {t : T} {v : Value} (h : PartsOf E w0 t v w) (hb : Below w.heap.size w w') : PartsOf E w0 t v w' := by
  obtain ⟨bm, rc, xs, h1, h2, h3⟩ := h
  exact ⟨bm, rc, xs, h1, h2.below hb, h3.keep (S := fun _ => False) (.ofBelow hb) (fun _ _ h => ⟨id, h⟩)⟩
theorem parts_of {w0 w : World} {t : T} {v : Value} (hb : Below w0.heap.size w0 w) (hT : IsT w0 t v) (hz : t.size ≤ 4294967296) : Calls Try.prog 36 #[v, .slice none 0 0] w (Ret fun v' w' => PartsOf 86 w0 t v' w' ∧ Below w.heap.size w w') := by
  refine (parts_any t w0 w v none 0 0 w0.heap.size 0 [] hb hT own_nil (Nat.zero_le _) (Nat.le_refl _) (by omega)).mono ?_
  rintro e w' ⟨v', rfl, bm, rc, ys, rfl, h1, h2, _, h4, _⟩
  refine ⟨_, rfl, ⟨bm, rc, ys, by rw [lay_len, Nat.zero_add], by rw [lay_len]; simpa using h1, h2.keep (S := fun _ => False) (.refl _ _) (fun _ _ _ => ⟨id, trivial⟩)⟩, chg_none h4 (fun k => by omega)⟩
def MapOf (o : Od) (s t : T) (w0 : World) (v : Value) (w : World) : Prop := ∃ g, v = .map (some g) ∧ w0.heap.size ≤ g ∧ PrMap w g (LpoR o (lay s 0) (lay t 0))
theorem MapOf.bel {o : Od} {s t : T} {w0 w w' : World} {v : Value} (h : MapOf o s t w0 v w) (hb : Below w.heap.size w w') : MapOf o s t w0 v w' := by
  obtain ⟨g, h1, h2, h3⟩ := h
  exact ⟨g, h1, h2, h3.below hb⟩
def OverOf (o : Od) (s t : T) (w0 : World) (v : Value) (w : World) : Prop := ∃ q : LpoQ, v = .pointer (some ⟨q.gw, 0, none⟩) ∧ LpoSt o (lay s 0) (lay t 0) q w0 w
theorem OverOf.bel {o : Od} {s t : T} {w0 w w' : World} {v : Value} (h : OverOf o s t w0 v w) (hb : Below w.heap.size w w') : OverOf o s t w0 v w' := by
  obtain ⟨q, h1, h2⟩ := h
  exact ⟨q, h1, h2.bel hb⟩
theorem over_st {o : Od} {s t : T} {w0 w : World} {v1 v2 v3 : Value} {p1 p2 : Option Addr} {k1 k2 : Nat} (hb : Below w0.heap.size w0 w) (ho : IsInts w0 o.prec p1) (h1 : PartsOf 86 w0 s v1 w) (h2 : PartsOf 86 w0 t v2 w) (h3 : MapOf o s t w0 v3 w) :
    OverOf o s t w0 (.pointer (some ⟨w.heap.size, 0, none⟩)) (w.alloc (.cells #[.bool o.lpo, .slice p1 o.prec.length k1, .slice p2 o.weights.length k2, .int .i64 o.var, v1, v2, v3] 75)) := by
  have hb2 := balloc w (.cells #[.bool o.lpo, .slice p1 o.prec.length k1, .slice p2 o.weights.length k2, .int .i64 o.var, v1, v2, v3] 75)
  have hB : Blk (w.alloc (.cells #[.bool o.lpo, .slice p1 o.prec.length k1, .slice p2 o.weights.length k2, .int .i64 o.var, v1, v2, v3] 75)) w.heap.size 75 #[.bool o.lpo, .slice p1 o.prec.length k1, .slice p2 o.weights.length k2, .int .i64 o.var, v1, v2, v3] := Blk.new' rfl
  obtain ⟨b1, r1, xs1, rfl, o1, n1⟩ := h1.bel hb2
  obtain ⟨b2, r2, xs2, rfl, o2, n2⟩ := h2.bel hb2
  obtain ⟨gm, rfl, hg, hm⟩ := h3.bel hb2
  obtain ⟨A1, X1, C1, Z1, x1, m1⟩ := NdRow.of n1 o1
  obtain ⟨A2, X2, C2, Z2, x2, m2⟩ := NdRow.of n2 o2
  exact ⟨⟨w.heap.size, gm, b1, b2, r1, r2, A1, A2, X1, X2, C1, C2, Z1, Z2, x1, x2, p1, p2, k1, k2⟩, rfl, bstep hb hb2, ho, m1, m2, hm, hB, hg⟩
theorem labove0 {o : Od} {s t : T} {q : LpoQ} {w0 w : World} (hs : o.lknows s = true) (ht : o.lknows t = true) (h1 : s.size ≤ 4294967296) (h2 : t.size ≤ 4294967296) (hst : LpoSt o (lay s 0) (lay t 0) q w0 w) :
    Calls Try.prog 37 #[.pointer (some ⟨q.gw, 0, none⟩), .int .i64 0, .int .i64 0] w (Ret fun v' w' => v' = .bool (o.lg s t) ∧ Below w0.heap.size w0 w') := by
  have e1 := lay_len s 0
  have e2 := lay_len t 0
  have e3 := T.size_eq s
  have e4 := T.size_eq t
  have h := labove_any o (lay s 0) (lay t 0) q w0 (lpoH_of hs ht h1 h2) (s.size + t.size) 0 0 w (by omega) (by omega) (by rw [lay_head, lay_head]; exact Nat.le_refl _) hst
  rw [lay_head, lay_head] at h
  refine h.mono ?_
  rintro e w' ⟨v', rfl, rfl, h5, _⟩
  exact ⟨_, rfl, rfl, h5.below⟩
set_option maxRecDepth 100000 in
theorem lover_any (o : Od) (s t : T) (w : World) (vo v u : Value) (hs : o.lknows s = true) (ht : o.lknows t = true) (h1 : s.size ≤ 4294967296) (h2 : t.size ≤ 4294967296) (ho : IsOd w o vo) (hv : IsT w s v) (hu : IsT w t u) :
    Calls Try.prog 27 #[vo, v, u] w (Ret fun v' w' => v' = .bool (o.lg s t) ∧ Below w.heap.size w w') := by
  have hv0 := hv
  have hu0 := hu
  obtain ⟨p1, p2, k1, k2, rfl, _, _, _, _, hp, _, _⟩ := ho
  obtain ⟨_, a, c, rfl, _, _, _⟩ := hv.form
  obtain ⟨_, a2, c2, rfl, _, _, _⟩ := hu.form
  refine Calls.walk (l := [.agg #[.bool o.lpo, .slice p1 o.prec.length k1, .slice p2 o.weights.length k2, .int .i64 o.var], .agg #[.int .i64 s.f, .slice a s.args.length c], .agg #[.int .i64 t.f, .slice a2 t.args.length c2]]) Try.func27 rfl (by kernel_rfl) ?_
  refine WC.sub (K' := [(0, .agg #[.bool o.lpo, .slice p1 o.prec.length k1, .slice p2 o.weights.length k2, .int .i64 o.var]), (1, .agg #[.int .i64 s.f, .slice a s.args.length c]), (2, .agg #[.int .i64 t.f, .slice a2 t.args.length c2])]) ⟨rfl, rfl, rfl, trivial⟩ ?_
  refine WC.seq ?_
  refine WC.region ?_
  refine WL.step (post := NewBlk w 24 #[.bool o.lpo, .slice p1 o.prec.length k1, .slice p2 o.weights.length k2, .int .i64 o.var]) rfl rfl rfl (fun za zC zh zk => box_24 rfl (zh.ev rfl) (zk _ _ (newBlk _ _ _))) ?_
  rintro _ w1 ⟨g2, rfl, hg3, hB4, hb5, hz6⟩
  have hl7 : w.heap.size ≤ g2 := by omega
  refine WL.step (post := NewBlk w1 27 #[.int .i64 s.f, .slice a s.args.length c]) rfl rfl rfl (fun za zC zh zk => box_27 rfl (zh.ev rfl) (zk _ _ (newBlk _ _ _))) ?_
  rintro _ w8 ⟨g9, rfl, hg10, hB11, hb12, hz13⟩
  have hl14 : g2 < g9 := by have z1 := hB4.lt; omega
  have hl15 : w.heap.size ≤ g9 := by have z2 := (hb5).size; omega
  refine WL.step (post := NewBlk w8 27 #[.int .i64 t.f, .slice a2 t.args.length c2]) rfl rfl rfl (fun za zC zh zk => box_27 rfl (zh.ev rfl) (zk _ _ (newBlk _ _ _))) ?_
  rintro _ w16 ⟨g17, rfl, hg18, hB19, hb20, hz21⟩
  have hl22 : g2 < g17 := by have z1 := hB4.lt; have z2 := (hb12).size; omega
  have hl23 : g9 < g17 := by have z1 := hB11.lt; omega
  have hb24 : Below w.heap.size w w8 := (bstep hb5 hb12)
  have hl25 : w.heap.size ≤ g17 := by have z2 := (hb24).size; omega
  refine WL.val (.bool false) rfl rfl rfl (fun za zC zh zk => wp_assign rfl (zh.ev rfl) zk) ?_
  refine WL.nil (WE.sub (K' := [(0, .agg #[.bool o.lpo, .slice p1 o.prec.length k1, .slice p2 o.weights.length k2, .int .i64 o.var]), (1, .agg #[.int .i64 s.f, .slice a s.args.length c]), (2, .agg #[.int .i64 t.f, .slice a2 t.args.length c2]), (3, .pointer (some ⟨g2, 0, none⟩)), (4, .pointer (some ⟨g9, 0, none⟩)), (5, .pointer (some ⟨g17, 0, none⟩)), (6, .bool false)]) ⟨rfl, rfl, rfl, rfl, rfl, rfl, rfl, trivial⟩ ?_)
  refine WE.next ?_
  refine WC.seq ?_
  have hb27 : Below w1.heap.size w1 w16 := (bstep hb12 hb20)
  have hB26 := hB4.below hb27
  have hB28 := hB11.below hb20
  have hb29 : Below w.heap.size w w16 := (bstep hb5 hb27)
  refine WC.opt [(true, .val (.agg #[.bool o.lpo, .slice p1 o.prec.length k1, .slice p2 o.weights.length k2, .int .i64 o.var])), (true, .val (.agg #[.int .i64 s.f, .slice a s.args.length c])), (true, .mem (PartsOf 86 w s) (fun v w w' hb h => PartsOf.bel h hb)), (true, .val (.agg #[.int .i64 t.f, .slice a2 t.args.length c2])), (true, .mem (PartsOf 86 w t) (fun v w w' hb h => PartsOf.bel h hb)), (true, .mem (MapOf o s t w) (fun v w w' hb h => MapOf.bel h hb)), (true, .mem (fun v w' => ∃ v1 v2 v3, v = .agg #[.bool o.lpo, .slice p1 o.prec.length k1, .slice p2 o.weights.length k2, .int .i64 o.var, v1, v2, v3] ∧ PartsOf 86 w s v1 w' ∧ PartsOf 86 w t v2 w' ∧ MapOf o s t w v3 w') (fun v w w' hb h => by obtain ⟨v1, v2, v3, e, h1, h2, h3⟩ := h; exact ⟨v1, v2, v3, e, h1.bel hb, h2.bel hb, h3.bel hb⟩)), (true, .mem (OverOf o s t w) (fun v w w' hb h => OverOf.bel h hb)), (true, .mem (OverOf o s t w) (fun v w w' hb h => OverOf.bel h hb))] [(0, .agg #[.bool o.lpo, .slice p1 o.prec.length k1, .slice p2 o.weights.length k2, .int .i64 o.var]), (1, .agg #[.int .i64 s.f, .slice a s.args.length c]), (2, .agg #[.int .i64 t.f, .slice a2 t.args.length c2]), (3, .pointer (some ⟨g2, 0, none⟩)), (4, .pointer (some ⟨g9, 0, none⟩)), (5, .pointer (some ⟨g17, 0, none⟩)), (6, .bool false)] ⟨rfl, rfl, rfl, rfl, rfl, rfl, rfl, trivial⟩ (by kernel_rfl) (by kernel_rfl) (by kernel_rfl) ?_ ?_
  · refine ⟨⟨true, .none rfl, fun h w => optUndef h, fun zβ za zw zc => ?_⟩, ?_⟩
    · exact ld_24 rfl (zc.kn.ev rfl) (bkeeps zc.below _ _ ((hB26.cell 0).trans rfl)) (bkeeps zc.below _ _ ((hB26.cell 1).trans rfl)) (bkeeps zc.below _ _ ((hB26.cell 2).trans rfl)) (bkeeps zc.below _ _ ((hB26.cell 3).trans rfl)) ⟨_, rfl, Below.refl _ _, optDef zβ rfl⟩
    refine ⟨⟨true, .none rfl, fun h w => optUndef h, fun zβ za zw zc => ?_⟩, ?_⟩
    · exact ld_27 rfl (zc.kn.ev rfl) (bkeeps zc.below _ _ ((hB28.cell 0).trans rfl)) (bkeeps zc.below _ _ ((hB28.cell 1).trans rfl)) ⟨_, rfl, Below.refl _ _, optDef zβ rfl⟩
    refine ⟨⟨true, .none rfl, fun h w => optUndef h, fun zβ za zw zc => ?_⟩, ?_⟩
    · exact wp_call (by kernel_rfl) rfl (hv2 ((show za.eval (.tmp 9) = za.tmps.getD 9 undef from rfl).trans (optVal (zc.dep 1 9 (by kernel_rfl)) rfl rfl)) (zc.kn.ev rfl)) (parts_of (bstep hb29 zc.below) hv0 h1) (fun v w' h => ⟨v, rfl, h.2, optDef zβ h.1⟩)
    refine ⟨⟨true, .none rfl, fun h w => optUndef h, fun zβ za zw zc => ?_⟩, ?_⟩
    · exact ld_27 rfl (zc.kn.ev rfl) (bkeeps zc.below _ _ ((hB19.cell 0).trans rfl)) (bkeeps zc.below _ _ ((hB19.cell 1).trans rfl)) ⟨_, rfl, Below.refl _ _, optDef zβ rfl⟩
    refine ⟨⟨true, .none rfl, fun h w => optUndef h, fun zβ za zw zc => ?_⟩, ?_⟩
    · exact wp_call (by kernel_rfl) rfl (hv2 ((show za.eval (.tmp 11) = za.tmps.getD 11 undef from rfl).trans (optVal (zc.dep 3 11 (by kernel_rfl)) rfl rfl)) (zc.kn.ev rfl)) (parts_of (bstep hb29 zc.below) hu0 h2) (fun v w' h => ⟨v, rfl, h.2, optDef zβ h.1⟩)
    refine ⟨⟨true, .none rfl, fun h w => optUndef h, fun zβ za zw zc => ?_⟩, ?_⟩
    · exact wp_makeMap_pr (R := LpoR o (lay s 0) (lay t 0)) rfl (fun v w' h => by
        obtain ⟨g, h1, h2, h3, h4, h5⟩ := h
        exact ⟨v, rfl, h4, optDef zβ ⟨g, h1, h2 ▸ ((bstep hb29 zc.below)).size, h3⟩⟩)
    refine ⟨⟨true, .none rfl, fun h w => optUndef h, fun zβ za zw zc => ?_⟩, ?_⟩
    · have m1 := (optMem (zc.dep 2 10 (by kernel_rfl)) rfl rfl)
      have m2 := (optMem (zc.dep 4 12 (by kernel_rfl)) rfl rfl)
      have m3 := (optMem (zc.dep 5 13 (by kernel_rfl)) rfl rfl)
      obtain ⟨b1, r1, x1, e1, _⟩ := id m1
      obtain ⟨b2, r2, x2, e2, _⟩ := id m2
      obtain ⟨g, e3, _⟩ := id m3
      refine build_75_0_1_2_3 rfl ((show za.eval (.tmp 8) = za.tmps.getD 8 undef from rfl).trans (optVal (zc.dep 0 8 (by kernel_rfl)) rfl rfl)) ((show za.eval (.tmp 10) = za.tmps.getD 10 undef from rfl).trans e1) ((show za.eval (.tmp 12) = za.tmps.getD 12 undef from rfl).trans e2) ((show za.eval (.tmp 13) = za.tmps.getD 13 undef from rfl).trans e3) ⟨_, rfl, Below.refl _ _, optDef zβ ⟨_, _, _, rfl, e1 ▸ m1, e2 ▸ m2, e3 ▸ m3⟩⟩
    refine ⟨⟨true, .none rfl, fun h w => optUndef h, fun zβ za zw zc => ?_⟩, ?_⟩
    · obtain ⟨v1, v2, v3, e, m1, m2, m3⟩ := (optMem (zc.dep 6 14 (by kernel_rfl)) rfl rfl)
      exact box_75 rfl ((show za.eval (.tmp 14) = za.tmps.getD 14 undef from rfl).trans e) ⟨_, rfl, balloc _ _, optDef zβ (over_st (bstep hb29 zc.below) hp m1 m2 m3)⟩
    refine ⟨⟨true, .none rfl, fun h w => optUndef h, fun zβ za zw zc => ?_⟩, ?_⟩
    · exact wp_assign rfl (show za.eval (.tmp 15) = za.tmps.getD 15 undef from rfl) ⟨_, rfl, Below.refl _ _, optDef zβ (optMem (zc.dep 7 15 (by kernel_rfl)) rfl rfl)⟩
    exact trivial
  · intro za w30 zh hb31 zu
    obtain ⟨q, hq, hst⟩ := (optMem (zu 8 7 (by kernel_rfl)) rfl rfl)
    have zh := zh.cons (d := 7) hq
    clear zu
    refine (show WE _ [(0, .agg #[.bool o.lpo, .slice p1 o.prec.length k1, .slice p2 o.weights.length k2, .int .i64 o.var]), (1, .agg #[.int .i64 s.f, .slice a s.args.length c]), (2, .agg #[.int .i64 t.f, .slice a2 t.args.length c2]), (3, .pointer (some ⟨g2, 0, none⟩)), (4, .pointer (some ⟨g9, 0, none⟩)), (5, .pointer (some ⟨g17, 0, none⟩)), (6, .bool false), (7, .pointer (some ⟨q.gw, 0, none⟩))] w30 _ .normal from ?_) za (zh.sub ⟨rfl, rfl, rfl, rfl, rfl, rfl, rfl, rfl, trivial⟩)
    refine WE.next ?_
    refine WC.seq ?_
    refine WC.region ?_
    refine WL.val (.pointer (some ⟨q.gw, 0, none⟩)) rfl rfl rfl (fun za zC zh zk => wp_move rfl (zh.ev rfl) zk) ?_
    refine WL.call rfl rfl rfl (fun za zh zC => wp_call (by kernel_rfl) rfl (hv3 (zh.ev rfl) (zh.ev rfl) (zh.ev rfl))) (labove0 hs ht h1 h2 hst) ?_
    rintro _ w32 ⟨rfl, hbz⟩
    refine WL.val (.bool ((o.lg s t))) rfl rfl rfl (fun za zC zh zk => wp_assign rfl (zh.ev rfl) zk) ?_
    refine WL.nil (WE.sub (K' := [(0, .agg #[.bool o.lpo, .slice p1 o.prec.length k1, .slice p2 o.weights.length k2, .int .i64 o.var]), (1, .agg #[.int .i64 s.f, .slice a s.args.length c]), (2, .agg #[.int .i64 t.f, .slice a2 t.args.length c2]), (3, .pointer (some ⟨g2, 0, none⟩)), (4, .pointer (some ⟨g9, 0, none⟩)), (5, .pointer (some ⟨g17, 0, none⟩)), (6, .bool ((o.lg s t))), (7, .pointer (some ⟨q.gw, 0, none⟩))]) ⟨rfl, rfl, rfl, rfl, rfl, rfl, rfl, rfl, trivial⟩ ?_)
    refine WE.next ?_
    refine WC.ret ?_
    refine WE.ret1 rfl rfl ?_
    exact ⟨_, rfl, rfl, hbz⟩

set_option maxRecDepth 100000 in
theorem lcmp_any (o : Od) (s t : T) (w : World) (vo v u : Value) (h1 : s.size ≤ 4294967296) (h2 : t.size ≤ 4294967296) (ho : IsOd w o vo) (hv : IsT w s v) (hu : IsT w t u) :
    Calls Try.prog 11 #[vo, v, u] w (Ret fun v' w' => v' = .int .i64 (o.lcmp s t) ∧ Below w.heap.size w w') := by
  have hv0 := hv
  have hu0 := hu
  have ho0 := ho
  obtain ⟨p1, p2, k1, k2, rfl, _, _, _, _, hp, _, _⟩ := ho
  obtain ⟨_, a, c, rfl, _, _, _⟩ := hv.form
  obtain ⟨_, a2, c2, rfl, _, _, _⟩ := hu.form
  refine Calls.walk (l := [.agg #[.bool o.lpo, .slice p1 o.prec.length k1, .slice p2 o.weights.length k2, .int .i64 o.var], .agg #[.int .i64 s.f, .slice a s.args.length c], .agg #[.int .i64 t.f, .slice a2 t.args.length c2]]) Try.func11 rfl (by kernel_rfl) ?_
  refine WC.sub (K' := [(0, .agg #[.bool o.lpo, .slice p1 o.prec.length k1, .slice p2 o.weights.length k2, .int .i64 o.var]), (1, .agg #[.int .i64 s.f, .slice a s.args.length c]), (2, .agg #[.int .i64 t.f, .slice a2 t.args.length c2])]) ⟨rfl, rfl, rfl, trivial⟩ ?_
  refine WC.seq ?_
  refine WC.region ?_
  refine WL.step (post := NewBlk w 24 #[.bool o.lpo, .slice p1 o.prec.length k1, .slice p2 o.weights.length k2, .int .i64 o.var]) rfl rfl rfl (fun za zC zh zk => box_24 rfl (zh.ev rfl) (zk _ _ (newBlk _ _ _))) ?_
  rintro _ w1 ⟨g2, rfl, hg3, hB4, hb5, hz6⟩
  have hl7 : w.heap.size ≤ g2 := by omega
  refine WL.step (post := NewBlk w1 27 #[.int .i64 s.f, .slice a s.args.length c]) rfl rfl rfl (fun za zC zh zk => box_27 rfl (zh.ev rfl) (zk _ _ (newBlk _ _ _))) ?_
  rintro _ w8 ⟨g9, rfl, hg10, hB11, hb12, hz13⟩
  have hl14 : g2 < g9 := by have z1 := hB4.lt; omega
  have hl15 : w.heap.size ≤ g9 := by have z2 := (hb5).size; omega
  refine WL.step (post := NewBlk w8 27 #[.int .i64 t.f, .slice a2 t.args.length c2]) rfl rfl rfl (fun za zC zh zk => box_27 rfl (zh.ev rfl) (zk _ _ (newBlk _ _ _))) ?_
  rintro _ w16 ⟨g17, rfl, hg18, hB19, hb20, hz21⟩
  have hl22 : g2 < g17 := by have z1 := hB4.lt; have z2 := (hb12).size; omega
  have hl23 : g9 < g17 := by have z1 := hB11.lt; omega
  have hb24 : Below w.heap.size w w8 := (bstep hb5 hb12)
  have hl25 : w.heap.size ≤ g17 := by have z2 := (hb24).size; omega
  refine WL.val (.int .i64 0) rfl rfl rfl (fun za zC zh zk => wp_assign rfl (zh.ev rfl) zk) ?_
  refine WL.nil (WE.sub (K' := [(0, .agg #[.bool o.lpo, .slice p1 o.prec.length k1, .slice p2 o.weights.length k2, .int .i64 o.var]), (1, .agg #[.int .i64 s.f, .slice a s.args.length c]), (2, .agg #[.int .i64 t.f, .slice a2 t.args.length c2]), (3, .pointer (some ⟨g2, 0, none⟩)), (4, .pointer (some ⟨g9, 0, none⟩)), (5, .pointer (some ⟨g17, 0, none⟩)), (6, .int .i64 0)]) ⟨rfl, rfl, rfl, rfl, rfl, rfl, rfl, trivial⟩ ?_)
  refine WE.next ?_
  refine WC.seq ?_
  refine WC.block ?_
  refine WC.seq ?_
  have hb27 : Below w1.heap.size w1 w16 := (bstep hb12 hb20)
  have hB26 := hB4.below hb27
  have hB28 := hB11.below hb20
  have hb29 : Below w.heap.size w w16 := (bstep hb5 hb27)
  refine WC.opt [(true, .val (.agg #[.bool o.lpo, .slice p1 o.prec.length k1, .slice p2 o.weights.length k2, .int .i64 o.var])), (true, .val (.agg #[.int .i64 s.f, .slice a s.args.length c])), (true, .val (.bool ((o.lknows s)))), (true, .val (.bool ((!(o.lknows s))))), (true, .val (.bool ((!(o.lknows s))))), ((true && !(!(o.lknows s))), .val (.agg #[.bool o.lpo, .slice p1 o.prec.length k1, .slice p2 o.weights.length k2, .int .i64 o.var])), ((true && !(!(o.lknows s))), .val (.agg #[.int .i64 t.f, .slice a2 t.args.length c2])), ((true && !(!(o.lknows s))), .val (.bool ((o.lknows t)))), ((true && !(!(o.lknows s))), .val (.bool ((!(o.lknows t))))), (true, .val (.bool (((!(o.lknows s)) || (!(o.lknows t)))))), (true, .val (.bool (((!(o.lknows s)) || (!(o.lknows t))))))] [(0, .agg #[.bool o.lpo, .slice p1 o.prec.length k1, .slice p2 o.weights.length k2, .int .i64 o.var]), (1, .agg #[.int .i64 s.f, .slice a s.args.length c]), (2, .agg #[.int .i64 t.f, .slice a2 t.args.length c2]), (3, .pointer (some ⟨g2, 0, none⟩)), (4, .pointer (some ⟨g9, 0, none⟩)), (5, .pointer (some ⟨g17, 0, none⟩)), (6, .int .i64 0)] ⟨rfl, rfl, rfl, rfl, rfl, rfl, rfl, trivial⟩ (by kernel_rfl) (by kernel_rfl) (by kernel_rfl) ?_ ?_
  · refine ⟨⟨true, .none rfl, fun h w => optUndef h, fun zβ za zw zc => ?_⟩, ?_⟩
    · exact ld_24 rfl (zc.kn.ev rfl) (bkeeps zc.below _ _ ((hB26.cell 0).trans rfl)) (bkeeps zc.below _ _ ((hB26.cell 1).trans rfl)) (bkeeps zc.below _ _ ((hB26.cell 2).trans rfl)) (bkeeps zc.below _ _ ((hB26.cell 3).trans rfl)) ⟨_, rfl, Below.refl _ _, optDef zβ rfl⟩
    refine ⟨⟨true, .none rfl, fun h w => optUndef h, fun zβ za zw zc => ?_⟩, ?_⟩
    · exact ld_27 rfl (zc.kn.ev rfl) (bkeeps zc.below _ _ ((hB28.cell 0).trans rfl)) (bkeeps zc.below _ _ ((hB28.cell 1).trans rfl)) ⟨_, rfl, Below.refl _ _, optDef zβ rfl⟩
    refine ⟨⟨true, .none rfl, fun h w => optUndef h, fun zβ za zw zc => ?_⟩, ?_⟩
    · exact wp_call (by kernel_rfl) rfl (hv2 ((show za.eval (.tmp 8) = za.tmps.getD 8 undef from rfl).trans (optVal (zc.dep 0 8 (by kernel_rfl)) rfl rfl)) ((show za.eval (.tmp 9) = za.tmps.getD 9 undef from rfl).trans (optVal (zc.dep 1 9 (by kernel_rfl)) rfl rfl))) (lknows_any o s _ _ _ (ho0.below (bstep hb29 zc.below)) (IsT.below (bstep hb29 zc.below) hv0)) (fun v w' h => ⟨v, rfl, h.2, optDef zβ h.1⟩)
    refine ⟨⟨true, .none rfl, fun h w => optUndef h, fun zβ za zw zc => ?_⟩, ?_⟩
    · exact wp_not rfl ((show za.eval (.tmp 10) = za.tmps.getD 10 undef from rfl).trans (optVal (zc.dep 2 10 (by kernel_rfl)) rfl rfl)) ⟨_, rfl, Below.refl _ _, optDef zβ rfl⟩
    refine ⟨⟨true, .none rfl, fun h w => optUndef h, fun zβ za zw zc => ?_⟩, ?_⟩
    · exact wp_move rfl ((show za.eval (.tmp 11) = za.tmps.getD 11 undef from rfl).trans (optVal (zc.dep 3 11 (by kernel_rfl)) rfl rfl)) ⟨_, rfl, Below.refl _ _, optDef zβ rfl⟩
    refine ⟨⟨(true && !(!(o.lknows s))), .no (c := (!(o.lknows s))) (d := true) rfl (fun v w h => h), fun h w => optUndef h, fun zβ za zw zc => ?_⟩, ?_⟩
    · exact ld_24 rfl (zc.kn.ev rfl) (bkeeps zc.below _ _ ((hB26.cell 0).trans rfl)) (bkeeps zc.below _ _ ((hB26.cell 1).trans rfl)) (bkeeps zc.below _ _ ((hB26.cell 2).trans rfl)) (bkeeps zc.below _ _ ((hB26.cell 3).trans rfl)) ⟨_, rfl, Below.refl _ _, optDef zβ rfl⟩
    refine ⟨⟨(true && !(!(o.lknows s))), .no (c := (!(o.lknows s))) (d := true) rfl (fun v w h => h), fun h w => optUndef h, fun zβ za zw zc => ?_⟩, ?_⟩
    · exact ld_27 rfl (zc.kn.ev rfl) (bkeeps zc.below _ _ ((hB19.cell 0).trans rfl)) (bkeeps zc.below _ _ ((hB19.cell 1).trans rfl)) ⟨_, rfl, Below.refl _ _, optDef zβ rfl⟩
    refine ⟨⟨(true && !(!(o.lknows s))), .no (c := (!(o.lknows s))) (d := true) rfl (fun v w h => h), fun h w => optUndef h, fun zβ za zw zc => ?_⟩, ?_⟩
    · exact wp_call (by kernel_rfl) rfl (hv2 ((show za.eval (.tmp 13) = za.tmps.getD 13 undef from rfl).trans (optVal (zc.dep 5 13 (by kernel_rfl)) rfl zβ)) ((show za.eval (.tmp 14) = za.tmps.getD 14 undef from rfl).trans (optVal (zc.dep 6 14 (by kernel_rfl)) rfl zβ))) (lknows_any o t _ _ _ (ho0.below (bstep hb29 zc.below)) (IsT.below (bstep hb29 zc.below) hu0)) (fun v w' h => ⟨v, rfl, h.2, optDef zβ h.1⟩)
    refine ⟨⟨(true && !(!(o.lknows s))), .no (c := (!(o.lknows s))) (d := true) rfl (fun v w h => h), fun h w => optUndef h, fun zβ za zw zc => ?_⟩, ?_⟩
    · exact wp_not rfl ((show za.eval (.tmp 15) = za.tmps.getD 15 undef from rfl).trans (optVal (zc.dep 7 15 (by kernel_rfl)) rfl zβ)) ⟨_, rfl, Below.refl _ _, optDef zβ rfl⟩
    refine ⟨⟨true, .none rfl, fun h w => optUndef h, fun zβ za zw zc => ?_⟩, ?_⟩
    · exact wp_or rfl ((show za.eval (.tmp 12) = za.tmps.getD 12 undef from rfl).trans (optVal (zc.dep 4 12 (by kernel_rfl)) rfl rfl)) (fun hp => ((show za.eval (.tmp 16) = za.tmps.getD 16 undef from rfl).trans (optVal (zc.dep 8 16 (by kernel_rfl)) rfl (bMkN zβ hp)))) ⟨_, rfl, Below.refl _ _, optDef zβ rfl⟩
    refine ⟨⟨true, .none rfl, fun h w => optUndef h, fun zβ za zw zc => ?_⟩, ?_⟩
    · exact wp_assign rfl ((show za.eval (.tmp 17) = za.tmps.getD 17 undef from rfl).trans (optVal (zc.dep 9 17 (by kernel_rfl)) rfl rfl)) ⟨_, rfl, Below.refl _ _, optDef zβ rfl⟩
    exact trivial
  · intro za w30 zh hb31 zu
    have zh := zh.cons (d := 7) (v := .bool (((!(o.lknows s)) || (!(o.lknows t))))) (optVal (zu 10 7 (by kernel_rfl)) rfl rfl)
    clear zu
    refine (show WE _ [(0, .agg #[.bool o.lpo, .slice p1 o.prec.length k1, .slice p2 o.weights.length k2, .int .i64 o.var]), (1, .agg #[.int .i64 s.f, .slice a s.args.length c]), (2, .agg #[.int .i64 t.f, .slice a2 t.args.length c2]), (3, .pointer (some ⟨g2, 0, none⟩)), (4, .pointer (some ⟨g9, 0, none⟩)), (5, .pointer (some ⟨g17, 0, none⟩)), (6, .int .i64 0), (7, .bool (((!(o.lknows s)) || (!(o.lknows t)))))] w30 _ .normal from ?_) za (zh.sub ⟨rfl, rfl, rfl, rfl, rfl, rfl, rfl, rfl, trivial⟩)
    refine WE.next ?_
    refine WC.cond rfl (fun h32 => ?_) (fun h32 => ?_)
    · have h32 : (¬ ((o.lknows s) = true)) ∨ (¬ ((o.lknows t) = true)) := by simpa using h32
      have hk1 : o.lknows s = false ∨ o.lknows t = false := by have z := h32; simpa using z
      refine WC.seq ?_
      refine WC.region ?_
      refine WL.val (.int .i64 0) rfl rfl rfl (fun za zC zh zk => wp_assign rfl (zh.ev rfl) zk) ?_
      refine WL.nil (WE.sub (K' := [(0, .agg #[.bool o.lpo, .slice p1 o.prec.length k1, .slice p2 o.weights.length k2, .int .i64 o.var]), (1, .agg #[.int .i64 s.f, .slice a s.args.length c]), (2, .agg #[.int .i64 t.f, .slice a2 t.args.length c2]), (3, .pointer (some ⟨g2, 0, none⟩)), (4, .pointer (some ⟨g9, 0, none⟩)), (5, .pointer (some ⟨g17, 0, none⟩)), (6, .int .i64 0), (7, .bool (((!(o.lknows s)) || (!(o.lknows t)))))]) ⟨rfl, rfl, rfl, rfl, rfl, rfl, rfl, rfl, trivial⟩ ?_)
      refine WE.next ?_
      refine WC.ret ?_
      refine WE.blockRet ?_
      refine WE.thenRet ?_
      refine WE.ret1 rfl rfl ?_
      have hb33 : Below w.heap.size w w30 := (bstep hb29 hb31)
      exact ⟨_, rfl, congrArg (Value.int .i64) (by first | (rcases hk1 with h | h <;> simp [Od.lcmp, h]; done) | simp [Od.lcmp, hk1.1, hk1.2, hk2, hk3, hk4]), hb33⟩
    · have h32 : ¬ ((¬ ((o.lknows s) = true)) ∨ (¬ ((o.lknows t) = true))) := by simpa using h32
      have hk1 : o.lknows s = true ∧ o.lknows t = true := by have z := h32; simpa using z
      refine WC.seq ?_
      refine WC.region ?_
      have hB34 := hB28.below hb31
      refine WL.val (.agg #[.int .i64 s.f, .slice a s.args.length c]) rfl rfl rfl (fun za zC zh zk => ld_27 rfl (zh.ev rfl) ((hB34.cell 0).trans rfl) ((hB34.cell 1).trans rfl) zk) ?_
      have hB35 := hB19.below hb31
      refine WL.val (.agg #[.int .i64 t.f, .slice a2 t.args.length c2]) rfl rfl rfl (fun za zC zh zk => ld_27 rfl (zh.ev rfl) ((hB35.cell 0).trans rfl) ((hB35.cell 1).trans rfl) zk) ?_
      have hb36 : Below w.heap.size w w30 := (bstep hb29 hb31)
      refine WL.call rfl rfl rfl (fun za zh zC => wp_call (by kernel_rfl) rfl (hv2 (zh.ev rfl) (zh.ev rfl))) (ret_of (same_any s t _ _ _ (IsT.below hb36 hv0) (IsT.below hb36 hu0))) ?_
      rintro _ w37 ⟨rfl, hbs⟩
      refine WL.val (.bool ((T.same s t))) rfl rfl rfl (fun za zC zh zk => wp_assign rfl (zh.ev rfl) zk) ?_
      refine WL.nil (WE.sub (K' := [(0, .agg #[.bool o.lpo, .slice p1 o.prec.length k1, .slice p2 o.weights.length k2, .int .i64 o.var]), (1, .agg #[.int .i64 s.f, .slice a s.args.length c]), (2, .agg #[.int .i64 t.f, .slice a2 t.args.length c2]), (3, .pointer (some ⟨g2, 0, none⟩)), (4, .pointer (some ⟨g9, 0, none⟩)), (5, .pointer (some ⟨g17, 0, none⟩)), (6, .int .i64 0), (7, .bool (((!(o.lknows s)) || (!(o.lknows t))))), (18, .bool ((T.same s t)))]) ⟨rfl, rfl, rfl, rfl, rfl, rfl, rfl, rfl, rfl, trivial⟩ ?_)
      refine WE.next ?_
      refine WC.cond rfl (fun h38 => ?_) (fun h38 => ?_)
      · skip
        have hk2 : T.same s t = true := by have z := h38; simpa using z
        refine WC.seq ?_
        refine WC.region ?_
        refine WL.val (.int .i64 2) rfl rfl rfl (fun za zC zh zk => wp_assign rfl (zh.ev rfl) zk) ?_
        refine WL.nil (WE.sub (K' := [(0, .agg #[.bool o.lpo, .slice p1 o.prec.length k1, .slice p2 o.weights.length k2, .int .i64 o.var]), (1, .agg #[.int .i64 s.f, .slice a s.args.length c]), (2, .agg #[.int .i64 t.f, .slice a2 t.args.length c2]), (3, .pointer (some ⟨g2, 0, none⟩)), (4, .pointer (some ⟨g9, 0, none⟩)), (5, .pointer (some ⟨g17, 0, none⟩)), (6, .int .i64 2), (7, .bool (((!(o.lknows s)) || (!(o.lknows t))))), (18, .bool ((T.same s t)))]) ⟨rfl, rfl, rfl, rfl, rfl, rfl, rfl, rfl, rfl, trivial⟩ ?_)
        refine WE.next ?_
        refine WC.ret ?_
        refine WE.blockRet ?_
        refine WE.thenRet ?_
        refine WE.ret1 rfl rfl ?_
        have hb39 : Below w.heap.size w w37 := (bstep hb36 hbs)
        exact ⟨_, rfl, congrArg (Value.int .i64) (by simp [Od.lcmp, hk1.1, hk1.2, hk2]), hb39⟩
      · skip
        have hk2 : T.same s t = false := by have z := h38; simpa using z
        refine WC.seq ?_
        refine WC.region ?_
        have hb41 : Below w16.heap.size w16 w37 := (bstep hb31 hbs)
        have hB40 := hB26.below hb41
        refine WL.val (.agg #[.bool o.lpo, .slice p1 o.prec.length k1, .slice p2 o.weights.length k2, .int .i64 o.var]) rfl rfl rfl (fun za zC zh zk => ld_24 rfl (zh.ev rfl) ((hB40.cell 0).trans rfl) ((hB40.cell 1).trans rfl) ((hB40.cell 2).trans rfl) ((hB40.cell 3).trans rfl) zk) ?_
        have hB42 := hB34.below hbs
        refine WL.val (.agg #[.int .i64 s.f, .slice a s.args.length c]) rfl rfl rfl (fun za zC zh zk => ld_27 rfl (zh.ev rfl) ((hB42.cell 0).trans rfl) ((hB42.cell 1).trans rfl) zk) ?_
        have hB43 := hB35.below hbs
        refine WL.val (.agg #[.int .i64 t.f, .slice a2 t.args.length c2]) rfl rfl rfl (fun za zC zh zk => ld_27 rfl (zh.ev rfl) ((hB43.cell 0).trans rfl) ((hB43.cell 1).trans rfl) zk) ?_
        have hb44 : Below w.heap.size w w37 := (bstep hb29 hb41)
        refine WL.call rfl rfl rfl (fun za zh zC => wp_call (by kernel_rfl) rfl (hv3 (zh.ev rfl) (zh.ev rfl) (zh.ev rfl))) (lover_any o s t _ _ _ _ hk1.1 hk1.2 h1 h2 (ho0.below hb44) (IsT.below hb44 hv0) (IsT.below hb44 hu0)) ?_
        rintro _ w45 ⟨rfl, hbo⟩
        refine WL.val (.bool ((o.lg s t))) rfl rfl rfl (fun za zC zh zk => wp_assign rfl (zh.ev rfl) zk) ?_
        refine WL.nil (WE.sub (K' := [(0, .agg #[.bool o.lpo, .slice p1 o.prec.length k1, .slice p2 o.weights.length k2, .int .i64 o.var]), (1, .agg #[.int .i64 s.f, .slice a s.args.length c]), (2, .agg #[.int .i64 t.f, .slice a2 t.args.length c2]), (3, .pointer (some ⟨g2, 0, none⟩)), (4, .pointer (some ⟨g9, 0, none⟩)), (5, .pointer (some ⟨g17, 0, none⟩)), (6, .int .i64 0), (7, .bool (((!(o.lknows s)) || (!(o.lknows t))))), (18, .bool ((T.same s t))), (22, .bool ((o.lg s t)))]) ⟨rfl, rfl, rfl, rfl, rfl, rfl, rfl, rfl, rfl, rfl, trivial⟩ ?_)
        refine WE.next ?_
        refine WC.cond rfl (fun h46 => ?_) (fun h46 => ?_)
        · skip
          have hk3 : o.lg s t = true := by have z := h46; simpa using z
          refine WC.seq ?_
          refine WC.region ?_
          refine WL.val (.int .i64 3) rfl rfl rfl (fun za zC zh zk => wp_assign rfl (zh.ev rfl) zk) ?_
          refine WL.nil (WE.sub (K' := [(0, .agg #[.bool o.lpo, .slice p1 o.prec.length k1, .slice p2 o.weights.length k2, .int .i64 o.var]), (1, .agg #[.int .i64 s.f, .slice a s.args.length c]), (2, .agg #[.int .i64 t.f, .slice a2 t.args.length c2]), (3, .pointer (some ⟨g2, 0, none⟩)), (4, .pointer (some ⟨g9, 0, none⟩)), (5, .pointer (some ⟨g17, 0, none⟩)), (6, .int .i64 3), (7, .bool (((!(o.lknows s)) || (!(o.lknows t))))), (18, .bool ((T.same s t))), (22, .bool ((o.lg s t)))]) ⟨rfl, rfl, rfl, rfl, rfl, rfl, rfl, rfl, rfl, rfl, trivial⟩ ?_)
          refine WE.next ?_
          refine WC.ret ?_
          refine WE.blockRet ?_
          refine WE.thenRet ?_
          refine WE.ret1 rfl rfl ?_
          have hb47 : Below w.heap.size w w45 := (bstep hb44 hbo)
          exact ⟨_, rfl, congrArg (Value.int .i64) (by simp [Od.lcmp, hk1.1, hk1.2, hk2, hk3]), hb47⟩
        · skip
          have hk3 : o.lg s t = false := by have z := h46; simpa using z
          refine WC.seq ?_
          refine WC.region ?_
          have hB48 := hB40.below hbo
          refine WL.val (.agg #[.bool o.lpo, .slice p1 o.prec.length k1, .slice p2 o.weights.length k2, .int .i64 o.var]) rfl rfl rfl (fun za zC zh zk => ld_24 rfl (zh.ev rfl) ((hB48.cell 0).trans rfl) ((hB48.cell 1).trans rfl) ((hB48.cell 2).trans rfl) ((hB48.cell 3).trans rfl) zk) ?_
          have hB49 := hB43.below hbo
          refine WL.val (.agg #[.int .i64 t.f, .slice a2 t.args.length c2]) rfl rfl rfl (fun za zC zh zk => ld_27 rfl (zh.ev rfl) ((hB49.cell 0).trans rfl) ((hB49.cell 1).trans rfl) zk) ?_
          have hB50 := hB42.below hbo
          refine WL.val (.agg #[.int .i64 s.f, .slice a s.args.length c]) rfl rfl rfl (fun za zC zh zk => ld_27 rfl (zh.ev rfl) ((hB50.cell 0).trans rfl) ((hB50.cell 1).trans rfl) zk) ?_
          have hb51 : Below w.heap.size w w45 := (bstep hb44 hbo)
          refine WL.call rfl rfl rfl (fun za zh zC => wp_call (by kernel_rfl) rfl (hv3 (zh.ev rfl) (zh.ev rfl) (zh.ev rfl))) (lover_any o t s _ _ _ _ hk1.2 hk1.1 h2 h1 (ho0.below hb51) (IsT.below hb51 hu0) (IsT.below hb51 hv0)) ?_
          rintro _ w52 ⟨rfl, hbo⟩
          refine WL.val (.bool ((o.lg t s))) rfl rfl rfl (fun za zC zh zk => wp_assign rfl (zh.ev rfl) zk) ?_
          refine WL.nil (WE.sub (K' := [(0, .agg #[.bool o.lpo, .slice p1 o.prec.length k1, .slice p2 o.weights.length k2, .int .i64 o.var]), (1, .agg #[.int .i64 s.f, .slice a s.args.length c]), (2, .agg #[.int .i64 t.f, .slice a2 t.args.length c2]), (3, .pointer (some ⟨g2, 0, none⟩)), (4, .pointer (some ⟨g9, 0, none⟩)), (5, .pointer (some ⟨g17, 0, none⟩)), (6, .int .i64 0), (7, .bool (((!(o.lknows s)) || (!(o.lknows t))))), (18, .bool ((T.same s t))), (22, .bool ((o.lg s t))), (27, .bool ((o.lg t s)))]) ⟨rfl, rfl, rfl, rfl, rfl, rfl, rfl, rfl, rfl, rfl, rfl, trivial⟩ ?_)
          refine WE.next ?_
          refine WC.cond rfl (fun h53 => ?_) (fun h53 => ?_)
          · skip
            have hk4 : o.lg t s = true := by have z := h53; simpa using z
            refine WC.seq ?_
            refine WC.region ?_
            refine WL.val (.int .i64 1) rfl rfl rfl (fun za zC zh zk => wp_assign rfl (zh.ev rfl) zk) ?_
            refine WL.nil (WE.sub (K' := [(0, .agg #[.bool o.lpo, .slice p1 o.prec.length k1, .slice p2 o.weights.length k2, .int .i64 o.var]), (1, .agg #[.int .i64 s.f, .slice a s.args.length c]), (2, .agg #[.int .i64 t.f, .slice a2 t.args.length c2]), (3, .pointer (some ⟨g2, 0, none⟩)), (4, .pointer (some ⟨g9, 0, none⟩)), (5, .pointer (some ⟨g17, 0, none⟩)), (6, .int .i64 1), (7, .bool (((!(o.lknows s)) || (!(o.lknows t))))), (18, .bool ((T.same s t))), (22, .bool ((o.lg s t))), (27, .bool ((o.lg t s)))]) ⟨rfl, rfl, rfl, rfl, rfl, rfl, rfl, rfl, rfl, rfl, rfl, trivial⟩ ?_)
            refine WE.next ?_
            refine WC.ret ?_
            refine WE.blockRet ?_
            refine WE.thenRet ?_
            refine WE.ret1 rfl rfl ?_
            have hb54 : Below w.heap.size w w52 := (bstep hb51 hbo)
            exact ⟨_, rfl, congrArg (Value.int .i64) (by simp [Od.lcmp, hk1.1, hk1.2, hk2, hk3, hk4]), hb54⟩
          · skip
            have hk4 : o.lg t s = false := by have z := h53; simpa using z
            refine WC.skip ?_
            refine WE.blockNormal ?_
            refine WE.next ?_
            refine WC.seq ?_
            refine WC.region ?_
            refine WL.val (.int .i64 0) rfl rfl rfl (fun za zC zh zk => wp_assign rfl (zh.ev rfl) zk) ?_
            refine WL.nil (WE.sub (K' := [(0, .agg #[.bool o.lpo, .slice p1 o.prec.length k1, .slice p2 o.weights.length k2, .int .i64 o.var]), (1, .agg #[.int .i64 s.f, .slice a s.args.length c]), (2, .agg #[.int .i64 t.f, .slice a2 t.args.length c2]), (3, .pointer (some ⟨g2, 0, none⟩)), (4, .pointer (some ⟨g9, 0, none⟩)), (5, .pointer (some ⟨g17, 0, none⟩)), (6, .int .i64 0), (7, .bool (((!(o.lknows s)) || (!(o.lknows t))))), (18, .bool ((T.same s t))), (22, .bool ((o.lg s t))), (27, .bool ((o.lg t s)))]) ⟨rfl, rfl, rfl, rfl, rfl, rfl, rfl, rfl, rfl, rfl, rfl, trivial⟩ ?_)
            refine WE.next ?_
            refine WC.ret ?_
            refine WE.ret1 rfl rfl ?_
            have hb55 : Below w.heap.size w w52 := (bstep hb51 hbo)
            exact ⟨_, rfl, congrArg (Value.int .i64) (by first | (rcases hk1 with h | h <;> simp [Od.lcmp, h]; done) | simp [Od.lcmp, hk1.1, hk1.2, hk2, hk3, hk4]), hb55⟩

set_option maxRecDepth 100000 in
theorem lpoAbove_any (o : Od) (s t : T) (w : World) (vo v u : Value) (h1 : s.size ≤ 4294967296) (h2 : t.size ≤ 4294967296) (ho : IsOd w o vo) (hv : IsT w s v) (hu : IsT w t u) :
    Calls Try.prog 12 #[vo, v, u] w (Ret fun v' w' => v' = .bool (o.lcmp s t == 3) ∧ Below w.heap.size w w') := by
  have hv0 := hv
  have hu0 := hu
  have ho0 := ho
  obtain ⟨p1, p2, k1, k2, rfl, _, _, _, _, hp, _, _⟩ := ho
  obtain ⟨_, a, c, rfl, _, _, _⟩ := hv.form
  obtain ⟨_, a2, c2, rfl, _, _, _⟩ := hu.form
  refine Calls.walk (l := [.agg #[.bool o.lpo, .slice p1 o.prec.length k1, .slice p2 o.weights.length k2, .int .i64 o.var], .agg #[.int .i64 s.f, .slice a s.args.length c], .agg #[.int .i64 t.f, .slice a2 t.args.length c2]]) Try.func12 rfl (by kernel_rfl) ?_
  refine WC.sub (K' := [(0, .agg #[.bool o.lpo, .slice p1 o.prec.length k1, .slice p2 o.weights.length k2, .int .i64 o.var]), (1, .agg #[.int .i64 s.f, .slice a s.args.length c]), (2, .agg #[.int .i64 t.f, .slice a2 t.args.length c2])]) ⟨rfl, rfl, rfl, trivial⟩ ?_
  refine WC.seq ?_
  refine WC.region ?_
  refine WL.step (post := NewBlk w 24 #[.bool o.lpo, .slice p1 o.prec.length k1, .slice p2 o.weights.length k2, .int .i64 o.var]) rfl rfl rfl (fun za zC zh zk => box_24 rfl (zh.ev rfl) (zk _ _ (newBlk _ _ _))) ?_
  rintro _ w1 ⟨g2, rfl, hg3, hB4, hb5, hz6⟩
  have hl7 : w.heap.size ≤ g2 := by omega
  refine WL.step (post := NewBlk w1 27 #[.int .i64 s.f, .slice a s.args.length c]) rfl rfl rfl (fun za zC zh zk => box_27 rfl (zh.ev rfl) (zk _ _ (newBlk _ _ _))) ?_
  rintro _ w8 ⟨g9, rfl, hg10, hB11, hb12, hz13⟩
  have hl14 : g2 < g9 := by have z1 := hB4.lt; omega
  have hl15 : w.heap.size ≤ g9 := by have z2 := (hb5).size; omega
  refine WL.step (post := NewBlk w8 27 #[.int .i64 t.f, .slice a2 t.args.length c2]) rfl rfl rfl (fun za zC zh zk => box_27 rfl (zh.ev rfl) (zk _ _ (newBlk _ _ _))) ?_
  rintro _ w16 ⟨g17, rfl, hg18, hB19, hb20, hz21⟩
  have hl22 : g2 < g17 := by have z1 := hB4.lt; have z2 := (hb12).size; omega
  have hl23 : g9 < g17 := by have z1 := hB11.lt; omega
  have hb24 : Below w.heap.size w w8 := (bstep hb5 hb12)
  have hl25 : w.heap.size ≤ g17 := by have z2 := (hb24).size; omega
  refine WL.val (.bool false) rfl rfl rfl (fun za zC zh zk => wp_assign rfl (zh.ev rfl) zk) ?_
  refine WL.nil (WE.sub (K' := [(0, .agg #[.bool o.lpo, .slice p1 o.prec.length k1, .slice p2 o.weights.length k2, .int .i64 o.var]), (1, .agg #[.int .i64 s.f, .slice a s.args.length c]), (2, .agg #[.int .i64 t.f, .slice a2 t.args.length c2]), (3, .pointer (some ⟨g2, 0, none⟩)), (4, .pointer (some ⟨g9, 0, none⟩)), (5, .pointer (some ⟨g17, 0, none⟩)), (6, .bool false)]) ⟨rfl, rfl, rfl, rfl, rfl, rfl, rfl, trivial⟩ ?_)
  refine WE.next ?_
  refine WC.seq ?_
  refine WC.region ?_
  have hb27 : Below w1.heap.size w1 w16 := (bstep hb12 hb20)
  have hB26 := hB4.below hb27
  refine WL.val (.agg #[.bool o.lpo, .slice p1 o.prec.length k1, .slice p2 o.weights.length k2, .int .i64 o.var]) rfl rfl rfl (fun za zC zh zk => ld_24 rfl (zh.ev rfl) ((hB26.cell 0).trans rfl) ((hB26.cell 1).trans rfl) ((hB26.cell 2).trans rfl) ((hB26.cell 3).trans rfl) zk) ?_
  have hB28 := hB11.below hb20
  refine WL.val (.agg #[.int .i64 s.f, .slice a s.args.length c]) rfl rfl rfl (fun za zC zh zk => ld_27 rfl (zh.ev rfl) ((hB28.cell 0).trans rfl) ((hB28.cell 1).trans rfl) zk) ?_
  refine WL.val (.agg #[.int .i64 t.f, .slice a2 t.args.length c2]) rfl rfl rfl (fun za zC zh zk => ld_27 rfl (zh.ev rfl) ((hB19.cell 0).trans rfl) ((hB19.cell 1).trans rfl) zk) ?_
  have hb29 : Below w.heap.size w w16 := (bstep hb5 hb27)
  refine WL.call rfl rfl rfl (fun za zh zC => wp_call (by kernel_rfl) rfl (hv3 (zh.ev rfl) (zh.ev rfl) (zh.ev rfl))) (lcmp_any o s t _ _ _ _ h1 h2 (ho0.below hb29) (IsT.below hb29 hv0) (IsT.below hb29 hu0)) ?_
  rintro _ w30 ⟨rfl, hbc⟩
  refine WL.val (.bool ((((o.lcmp s t) : Int) == (3 : Int)))) rfl rfl rfl (fun za zC zh zk => eql_30 rfl (zh.ev rfl) (zh.ev rfl) zk) ?_
  refine WL.val (.bool ((((o.lcmp s t) : Int) == (3 : Int)))) rfl rfl rfl (fun za zC zh zk => wp_assign rfl (zh.ev rfl) zk) ?_
  refine WL.nil (WE.sub (K' := [(0, .agg #[.bool o.lpo, .slice p1 o.prec.length k1, .slice p2 o.weights.length k2, .int .i64 o.var]), (1, .agg #[.int .i64 s.f, .slice a s.args.length c]), (2, .agg #[.int .i64 t.f, .slice a2 t.args.length c2]), (3, .pointer (some ⟨g2, 0, none⟩)), (4, .pointer (some ⟨g9, 0, none⟩)), (5, .pointer (some ⟨g17, 0, none⟩)), (6, .bool ((((o.lcmp s t) : Int) == (3 : Int))))]) ⟨rfl, rfl, rfl, rfl, rfl, rfl, rfl, trivial⟩ ?_)
  refine WE.next ?_
  refine WC.ret ?_
  refine WE.ret1 rfl rfl ?_
  have hb31 : Below w.heap.size w w30 := (bstep hb29 hbc)
  exact ⟨_, rfl, rfl, hb31⟩

end Go.Proofs.Ytlkiabgpnboicaa

namespace Go.Proofs.Ytlkiabgpnboicaa
open Go.RowKit

theorem size_any (t : T) : ∀ (w : World) (v : Value), IsT w t v →
    Calls Try.prog 20 #[v] w fun e w' => e = .returned (.int .i64 (wrap64 t.size)) ∧ Below w.heap.size w w' := by
  induction t using T.ind with
  | h f l ih =>
  intro w v hv
  obtain ⟨_, a, c, rfl, hc, hm, hl⟩ := hv
  unfold maxLen at hm
  go_enter Try.func20, Try.ntmps20
  go_wp2
  go_loopw [3, 4] (fun n i wr => ∃ (k : Nat), k ≤ l.length ∧ i = .int .i64 k ∧ n = .int .i64 (wrap64 (1 + T.sizeL (l.take k) : Nat)) ∧ Below w.heap.size w wr ∧ Box wr w.heap.size [.int .i64 f, .slice a l.length c]) (fun _ i _ => l.length - (intOf i).toNat)
  case atStart => exact ⟨0, Nat.zero_le _, rfl, vint (by simp [T.sizeL, wrap64]), balloc _ _, Box.new _ _ _⟩
  case round =>
    obtain ⟨k, hk, rfl, rfl, hw, hB⟩ := hrel
    obtain ⟨_, b1⟩ := hB.two
    by_cases hlt : k < l.length
    · obtain ⟨b, o, a', c', rfl, g1, g2, h3⟩ := hl.at_ hw k hlt
      have IH := fun w v => ih l[k] (List.getElem_mem hlt) w v
      have Hh3 := Lib.hid h3
      have HhB := Lib.hid hB
      have Hhw := Lib.hid hw
      clear h3 hB hw
      clear ih hl
      go_wp2_with (go_at_call 20; refine (IH _ _ Hh3.out).mono ?_; rintro e w' ⟨rfl, hb'⟩)
      go_roundw
      case rel => exact ⟨k + 1, by omega, by go_num, by rw [wrap64_add, T.sizeL_take_succ l k hlt]; congr 2; omega, bstep Hhw.out hb', HhB.out.below hb'⟩
      case measure => simp [intOf]; omega
    · go_wp2_with fail
      go_ret
      obtain rfl : k = l.length := by omega
      exact ⟨rint (by rw [List.take_length]; rfl), hw⟩

end Go.Proofs.Ytlkiabgpnboicaa
