/- The features of a clause: the document; which may subsume. -/
import Derived.Test.YtnblndmjjokepaaFvFeat
namespace Go.Proofs.Ytnblndmjjokepaa
open Go.RowKit Go
set_option linter.unusedVariables false
set_option linter.unusedSimpArgs false

def rG (x : Li) (g : Nat → Int) (f : Nat) : Nat → Int := (List.range f).foldl (refF x) g
theorem rG_zero {x : Li} {g : Nat → Int} : rG x g 0 = g := rfl
theorem rG_succ {x : Li} {g : Nat → Int} {f : Nat} : rG x g (f + 1) = refS x.way f x.r (refS x.way f x.l (rG x g f)) := by unfold rG; rw [List.range_succ, List.foldl_append]; rfl
theorem rG_nonneg {x : Li} {g : Nat → Int} (h0 : ∀ k, 0 ≤ g k) (f k : Nat) : 0 ≤ rG x g f k := by unfold rG; rw [refL_fold h0]; exact adds_nonneg h0 k
theorem rG_ev {x : Li} {g : Nat → Int} (h0 : ∀ k, 0 ≤ g k) {B : Int} (hB : ∀ k, evn k → g k ≤ B) (hl : x.l.size ≤ 4294967296) (hr : x.r.size ≤ 4294967296) (f k : Nat) (hk : evn k) : rG x g f k ≤ B + 8589934592 := by
  unfold rG
  rw [refL_fold h0]
  have h1 := hB k hk
  have hs1 := sof_le x.l ((k - 2) / 4)
  have hs2 := sof_le x.r ((k - 2) / 4)
  have hw := x.way_le
  unfold adds
  dsimp only
  split
  · omega
  · split
    · omega
    · split
      · rcases hk with hk | hk <;> omega
      · omega
theorem refS_nonneg {way f : Nat} {t : T} {g : Nat → Int} (h0 : ∀ k, 0 ≤ g k) (k : Nat) : 0 ≤ refS way f t g k := by rw [refS_addAt h0]; exact addAt_nonneg h0 k
theorem refS_ev {way f : Nat} {t : T} {g : Nat → Int} (h0 : ∀ k, 0 ≤ g k) {B : Int} (hB : ∀ k, evn k → g k ≤ B) (hz : t.size ≤ 4294967296) (k : Nat) (hk : evn k) : refS way f t g k ≤ B + 4294967296 := by
  rw [refS_addAt h0]
  have h1 := hB k hk
  have hs1 := sof_le t f
  unfold addAt
  split
  · omega
  · split
    · rcases hk with hk | hk <;> omega
    · omega
theorem refS_true {way f : Nat} {t : T} {g : Nat → Int} (h : t.isTrue = true) : refS way f t g = g := if_pos h
theorem refS_not {way f : Nat} {t : T} {g : Nat → Int} (h : ¬ t.isTrue = true) : refS way f t g = gset (gset g (2 + 4 * f + 2 * way) (g (2 + 4 * f + 2 * way) + t.often f)) (2 + 4 * f + 2 * way + 1) (max (gset g (2 + 4 * f + 2 * way) (g (2 + 4 * f + 2 * way) + t.often f) (2 + 4 * f + 2 * way + 1)) (t.deep f 1)) := by
  unfold refS; rw [if_neg h, gset_ne (by omega)]
theorem lit_rG {n : Nat} {x : Li} {g : Nat → Int} {way : Nat} (h0 : ∀ k, 0 ≤ g k) (h : way = x.way) : litP n g x = rG x (gset g way (g way + 1)) n := by subst h; exact (refL_eq h0).symm
set_option maxRecDepth 100000 in
set_option maxHeartbeats 1000000 in
theorem rfeat_nat (n : Nat) (hn : n ≤ 96) (l : List Li) (w : World) (a : Option Addr) (c : Nat) (hl : IsCl w l a c) (hz : l.length ≤ 1048576) : Calls Try.prog 12 #[.int .i64 (n : Int), .slice a l.length c] w (Ret fun v' w' => (∃ ob, v' = .slice (some ⟨ob, 0, none⟩) (2 + 4 * n) (2 + 4 * n) ∧ IRow w' 3 ob (2 + 4 * n) (featP n l) ∧ w.heap.size ≤ ob) ∧ Below w.heap.size w w') := by
  have hr := hl.rows
  refine Calls.walk (l := [.int .i64 (((n : Nat) : Int)), .slice a l.length c]) Try.func12 rfl (by kernel_rfl) ?_
  refine WC.sub (K' := [(0, .int .i64 (((n : Nat) : Int))), (1, .slice a l.length c)]) ⟨rfl, rfl, trivial⟩ ?_
  refine WC.seq ?_
  refine WC.region ?_
  refine WL.val (.slice none 0 0) rfl rfl rfl (fun za zC zh zk => wp_assign rfl (zh.ev rfl) zk) ?_
  refine WL.nil (WE.sub (K' := [(0, .int .i64 (((n : Nat) : Int))), (1, .slice a l.length c), (4, .slice none 0 0)]) ⟨rfl, rfl, rfl, trivial⟩ ?_)
  refine WE.next ?_
  refine WC.seq ?_
  refine WC.seq ?_
  refine WC.opt [(true, .val (.int .i64 (((n : Nat) : Int)))), (true, .val (.bool ((decide ((((n : Nat) : Int) : Int) < (0 : Int)))))), (true, .val (.bool ((decide ((((n : Nat) : Int) : Int) < (0 : Int)))))), ((true && !(decide ((((n : Nat) : Int) : Int) < (0 : Int)))), .val (.int .i64 (((n : Nat) : Int)))), ((true && !(decide ((((n : Nat) : Int) : Int) < (0 : Int)))), .val (.bool ((decide ((96 : Int) < (((n : Nat) : Int) : Int)))))), (true, .val (.bool (((decide ((((n : Nat) : Int) : Int) < (0 : Int))) || (decide ((96 : Int) < (((n : Nat) : Int) : Int)))))))] [(0, .int .i64 (((n : Nat) : Int))), (1, .slice a l.length c), (4, .slice none 0 0)] ⟨rfl, rfl, rfl, trivial⟩ (by kernel_rfl) (by kernel_rfl) (by kernel_rfl) ?_ ?_
  · refine ⟨⟨true, .none rfl, fun h w => optUndef h, fun zβ za zw zc => ?_⟩, ?_⟩
    · exact wp_move rfl (zc.kn.ev rfl) ⟨_, rfl, Below.refl _ _, optDef zβ rfl⟩
    refine ⟨⟨true, .none rfl, fun h w => optUndef h, fun zβ za zw zc => ?_⟩, ?_⟩
    · exact lss_3 rfl ((show za.eval (.tmp 10) = za.tmps.getD 10 undef from rfl).trans (optVal (zc.dep 0 10 (by kernel_rfl)) rfl rfl)) (zc.kn.ev rfl) ⟨_, rfl, Below.refl _ _, optDef zβ rfl⟩
    refine ⟨⟨true, .none rfl, fun h w => optUndef h, fun zβ za zw zc => ?_⟩, ?_⟩
    · exact wp_move rfl ((show za.eval (.tmp 11) = za.tmps.getD 11 undef from rfl).trans (optVal (zc.dep 1 11 (by kernel_rfl)) rfl rfl)) ⟨_, rfl, Below.refl _ _, optDef zβ rfl⟩
    refine ⟨⟨(true && !(decide ((((n : Nat) : Int) : Int) < (0 : Int)))), .no (c := (decide ((((n : Nat) : Int) : Int) < (0 : Int)))) (d := true) rfl (fun v w h => h), fun h w => optUndef h, fun zβ za zw zc => ?_⟩, ?_⟩
    · exact wp_move rfl (zc.kn.ev rfl) ⟨_, rfl, Below.refl _ _, optDef zβ rfl⟩
    refine ⟨⟨(true && !(decide ((((n : Nat) : Int) : Int) < (0 : Int)))), .no (c := (decide ((((n : Nat) : Int) : Int) < (0 : Int)))) (d := true) rfl (fun v w h => h), fun h w => optUndef h, fun zβ za zw zc => ?_⟩, ?_⟩
    · exact gtr_3 rfl ((show za.eval (.tmp 13) = za.tmps.getD 13 undef from rfl).trans (optVal (zc.dep 3 13 (by kernel_rfl)) rfl zβ)) (zc.kn.ev rfl) ⟨_, rfl, Below.refl _ _, optDef zβ rfl⟩
    refine ⟨⟨true, .none rfl, fun h w => optUndef h, fun zβ za zw zc => ?_⟩, ?_⟩
    · exact wp_or rfl ((show za.eval (.tmp 12) = za.tmps.getD 12 undef from rfl).trans (optVal (zc.dep 2 12 (by kernel_rfl)) rfl rfl)) (fun hp => ((show za.eval (.tmp 14) = za.tmps.getD 14 undef from rfl).trans (optVal (zc.dep 4 14 (by kernel_rfl)) rfl (bMkN zβ hp)))) ⟨_, rfl, Below.refl _ _, optDef zβ rfl⟩
    exact trivial
  · intro za w1 zh hb2 zu
    have zh := zh.cons (d := 15) (v := .bool (((decide ((((n : Nat) : Int) : Int) < (0 : Int))) || (decide ((96 : Int) < (((n : Nat) : Int) : Int)))))) (optVal (zu 5 15 (by kernel_rfl)) rfl rfl)
    clear zu
    refine (show WE _ [(0, .int .i64 (((n : Nat) : Int))), (1, .slice a l.length c), (4, .slice none 0 0), (15, .bool (((decide ((((n : Nat) : Int) : Int) < (0 : Int))) || (decide ((96 : Int) < (((n : Nat) : Int) : Int))))))] w1 _ .normal from ?_) za (zh.sub ⟨rfl, rfl, rfl, rfl, trivial⟩)
    refine WE.next ?_
    refine WC.condF rfl (by simp; omega) ?_
    refine WC.skip ?_
    refine WE.next ?_
    refine WC.seq ?_
    refine WC.region ?_
    refine WL.val (.int .i64 (((n : Nat) : Int))) rfl rfl rfl (fun za zC zh zk => wp_move rfl (zh.ev rfl) zk) ?_
    refine WL.val (.int .i64 ((((4 * n) : Nat) : Int))) rfl rfl rfl (fun za zC zh zk => mulb_3 rfl (zh.ev rfl) (zh.ev rfl) (wrap_eq (by omega) (by omega) (by omega)) zk) ?_
    refine WL.val (.int .i64 ((((2 + 4 * n) : Nat) : Int))) rfl rfl rfl (fun za zC zh zk => addb_3 rfl (zh.ev rfl) (zh.ev rfl) (wrap_eq (by omega) (by omega) (by omega)) zk) ?_
    refine WL.step (post := fun v w' => ∃ g, v = .slice (some ⟨g, 0, none⟩) (2 + 4 * n) (2 + 4 * n) ∧ w1.heap.size = g ∧ Blk w' g 3 (madeCells (Value.cells (.int .i64 0)) ((2 + 4 * n) * 1)) ∧ Below w1.heap.size w1 w') rfl rfl rfl (fun za zC zh zk => wp_mkE (z := .int .i64 0) (size := 1) (bytes := 8) Try.underlying27 (by kernel_rfl) (by decide) rfl (zh.ev rfl) (zh.ev rfl) (by omega) (zk _ _ ⟨_, rfl, rfl, Blk.new' rfl, balloc _ _⟩)) ?_
    rintro _ w3 ⟨ob, rfl, hg4, hB5, hb6⟩
    have hl8 : w.heap.size ≤ ob := by have z2 := (hb2).size; omega
    have hM7 := irow_new hB5
    have hob9 : w.heap.size ≤ ob := by omega
    refine WL.val (.slice ((some ⟨ob, 0, none⟩)) ((2 + 4 * n)) ((2 + 4 * n))) rfl rfl rfl (fun za zC zh zk => wp_assign rfl (zh.ev rfl) zk) ?_
    refine WL.nil (WE.sub (K' := [(0, .int .i64 (((n : Nat) : Int))), (1, .slice a l.length c), (4, .slice none 0 0), (5, .slice ((some ⟨ob, 0, none⟩)) ((2 + 4 * n)) ((2 + 4 * n))), (15, .bool (((decide ((((n : Nat) : Int) : Int) < (0 : Int))) || (decide ((96 : Int) < (((n : Nat) : Int) : Int))))))]) ⟨rfl, rfl, rfl, rfl, rfl, trivial⟩ ?_)
    refine WE.next ?_
    refine WC.seq ?_
    refine WC.seq ?_
    refine WC.region ?_
    refine WL.val (.int .i64 0) rfl rfl rfl (fun za zC zh zk => wp_assign rfl (zh.ev rfl) zk) ?_
    refine WL.nil (WE.sub (K' := [(0, .int .i64 (((n : Nat) : Int))), (1, .slice a l.length c), (4, .slice none 0 0), (5, .slice ((some ⟨ob, 0, none⟩)) ((2 + 4 * n)) ((2 + 4 * n))), (6, .int .i64 0), (15, .bool (((decide ((((n : Nat) : Int) : Int) < (0 : Int))) || (decide ((96 : Int) < (((n : Nat) : Int) : Int))))))]) ⟨rfl, rfl, rfl, rfl, rfl, rfl, trivial⟩ ?_)
    refine WE.next ?_
    refine WC.block ?_
    refine WC.loop (X := Nat) (fun i => l.length - i) (fun i => [(0, .int .i64 (((n : Nat) : Int))), (1, .slice a l.length c), (4, .slice none 0 0), (5, .slice ((some ⟨ob, 0, none⟩)) ((2 + 4 * n)) ((2 + 4 * n))), (6, .int .i64 (((i : Nat) : Int))), (15, .bool (((decide ((((n : Nat) : Int) : Int) < (0 : Int))) || (decide ((96 : Int) < (((n : Nat) : Int) : Int))))))]) (fun i w9 => i ≤ l.length ∧ (∀ k, evn k → outG n l i k ≤ i * 17179869184) ∧ Below w.heap.size w w9 ∧ IRow (w9) 3 ob (2 + 4 * n) (outG n l i)) 0 ⟨rfl, rfl, rfl, rfl, rfl, rfl, trivial⟩ ?_ ?_
    · have hb10 : Below w.heap.size w w3 := (bstep hb2 hb6)
      exact ⟨Nat.zero_le _, (fun k _ => by simp [outG]), hb10, hM7⟩
    · rintro i w9 ⟨hi, hgb, hb11, ho12⟩
      have hpl : i < l.length → (lget l i).l.size ≤ 4294967296 := fun h => hl.pl h
      have hpr : i < l.length → (lget l i).r.size ≤ 4294967296 := fun h => hl.pr h
      have hg0 := outG_nonneg (n := n) (l := l) (i := i)
      refine WC.seq ?_
      refine WC.seq ?_
      refine WC.region ?_
      refine WL.val (.int .i64 (((i : Nat) : Int))) rfl rfl rfl (fun za zC zh zk => wp_move rfl (zh.ev rfl) zk) ?_
      refine WL.val (.slice a l.length c) rfl rfl rfl (fun za zC zh zk => wp_move rfl (zh.ev rfl) zk) ?_
      refine WL.val (.int .i64 (((l.length : Nat) : Int))) rfl rfl rfl (fun za zC zh zk => len_23 rfl (zh.ev rfl) zk) ?_
      refine WL.val (.bool ((decide ((((i : Nat) : Int) : Int) < (((l.length : Nat) : Int) : Int))))) rfl rfl rfl (fun za zC zh zk => lss_3 rfl (zh.ev rfl) (zh.ev rfl) zk) ?_
      refine WL.nil (WE.sub (K' := [(0, .int .i64 (((n : Nat) : Int))), (1, .slice a l.length c), (4, .slice none 0 0), (5, .slice ((some ⟨ob, 0, none⟩)) ((2 + 4 * n)) ((2 + 4 * n))), (6, .int .i64 (((i : Nat) : Int))), (15, .bool (((decide ((((n : Nat) : Int) : Int) < (0 : Int))) || (decide ((96 : Int) < (((n : Nat) : Int) : Int)))))), (23, .bool ((decide ((((i : Nat) : Int) : Int) < (((l.length : Nat) : Int) : Int)))))]) ⟨rfl, rfl, rfl, rfl, rfl, rfl, rfl, trivial⟩ ?_)
      refine WE.next ?_
      refine WC.cond rfl (fun h13 => ?_) (fun h13 => ?_)
      · have h13 : (((i : Nat) : Int) : Int) < (((l.length : Nat) : Int) : Int) := by simpa using h13
        have hil : i < l.length := by omega
        refine WC.skip ?_
        refine WE.next ?_
        refine WC.seq ?_
        refine WC.block ?_
        refine WC.seq ?_
        refine WC.region ?_
        refine WL.val (.int .i64 0) rfl rfl rfl (fun za zC zh zk => wp_assign rfl (zh.ev rfl) zk) ?_
        refine WL.nil (WE.sub (K' := [(0, .int .i64 (((n : Nat) : Int))), (1, .slice a l.length c), (4, .slice none 0 0), (5, .slice ((some ⟨ob, 0, none⟩)) ((2 + 4 * n)) ((2 + 4 * n))), (6, .int .i64 (((i : Nat) : Int))), (7, .int .i64 0), (15, .bool (((decide ((((n : Nat) : Int) : Int) < (0 : Int))) || (decide ((96 : Int) < (((n : Nat) : Int) : Int)))))), (23, .bool ((decide ((((i : Nat) : Int) : Int) < (((l.length : Nat) : Int) : Int)))))]) ⟨rfl, rfl, rfl, rfl, rfl, rfl, rfl, rfl, trivial⟩ ?_)
        refine WE.next ?_
        refine WC.seq ?_
        refine WC.seq ?_
        refine WC.region ?_
        refine WL.val (.slice a l.length c) rfl rfl rfl (fun za zC zh zk => wp_move rfl (zh.ev rfl) zk) ?_
        refine WL.val (.int .i64 (((i : Nat) : Int))) rfl rfl rfl (fun za zC zh zk => wp_move rfl (zh.ev rfl) zk) ?_
        obtain ⟨b14, o15, A16, C17, A18, C19, ha20, hc21⟩ := InRow.openL hr
        refine WL.val (.pointer (some ⟨b14, o15 + i * 5, none⟩)) rfl rfl rfl (fun za zC zh zk => ix_23 (k := i) rfl (zh.ev rfl) (ha20 i (by first | omega | (simp; omega))) (zh.ev rfl) (by first | omega | (simp; omega)) zk) ?_
        refine WL.val (.pointer (some ⟨b14, o15 + i * 5, none⟩)) rfl rfl rfl (fun za zC zh zk => fld_34_0 rfl (zh.ev rfl) zk) ?_
        refine WL.val (.bool ((lget l i).neg)) rfl rfl rfl (fun za zC zh zk => ld_4 rfl (zh.ev rfl) (bkeeps hb11 _ _ (hc21 i (by first | omega | (simp; omega))).1) zk) ?_
        refine WL.nil (WE.sub (K' := [(0, .int .i64 (((n : Nat) : Int))), (1, .slice a l.length c), (4, .slice none 0 0), (5, .slice ((some ⟨ob, 0, none⟩)) ((2 + 4 * n)) ((2 + 4 * n))), (6, .int .i64 (((i : Nat) : Int))), (7, .int .i64 0), (15, .bool (((decide ((((n : Nat) : Int) : Int) < (0 : Int))) || (decide ((96 : Int) < (((n : Nat) : Int) : Int)))))), (23, .bool ((decide ((((i : Nat) : Int) : Int) < (((l.length : Nat) : Int) : Int))))), (30, .bool ((lget l i).neg))]) ⟨rfl, rfl, rfl, rfl, rfl, rfl, rfl, rfl, rfl, trivial⟩ ?_)
        refine WE.next ?_
        refine WC.cond rfl (fun h22 => ?_) (fun h22 => ?_)
        · skip
          refine WC.region ?_
          refine WL.val (.int .i64 1) rfl rfl rfl (fun za zC zh zk => wp_assign rfl (zh.ev rfl) zk) ?_
          refine WL.nil (WE.sub (K' := [(0, .int .i64 (((n : Nat) : Int))), (1, .slice a l.length c), (4, .slice none 0 0), (5, .slice ((some ⟨ob, 0, none⟩)) ((2 + 4 * n)) ((2 + 4 * n))), (6, .int .i64 (((i : Nat) : Int))), (7, .int .i64 1), (15, .bool (((decide ((((n : Nat) : Int) : Int) < (0 : Int))) || (decide ((96 : Int) < (((n : Nat) : Int) : Int)))))), (23, .bool ((decide ((((i : Nat) : Int) : Int) < (((l.length : Nat) : Int) : Int))))), (30, .bool ((lget l i).neg))]) ⟨rfl, rfl, rfl, rfl, rfl, rfl, rfl, rfl, rfl, trivial⟩ ?_)
          refine WE.next ?_
          refine WC.seq ?_
          refine WC.region ?_
          refine WL.val (.slice ((some ⟨ob, 0, none⟩)) ((2 + 4 * n)) ((2 + 4 * n))) rfl rfl rfl (fun za zC zh zk => wp_move rfl (zh.ev rfl) zk) ?_
          refine WL.val (.int .i64 1) rfl rfl rfl (fun za zC zh zk => wp_move rfl (zh.ev rfl) zk) ?_
          refine WL.val (.pointer (some ⟨ob, 1, none⟩)) rfl rfl rfl (fun za zC zh zk => ix_27 (k := 1) rfl (zh.ev rfl) rfl (zh.ev rfl) (by first | omega | (simp; omega)) zk) ?_
          refine WL.val (.int .i64 (((outG n l i) 1))) rfl rfl rfl (fun za zC zh zk => ld_3 rfl (zh.ev rfl) (IRow.cellAt ho12 (by omega) (by omega)) zk) ?_
          refine WL.val (.int .i64 ((((outG n l i) 1) + 1))) rfl rfl rfl (fun za zC zh zk => addb_3 rfl (zh.ev rfl) (zh.ev rfl) (wrap_eq rfl (by have z := hg0 1; omega) (by have z := hgb 1 (by unfold evn; omega); omega)) zk) ?_
          refine WL.val (.pointer (some ⟨ob, 1, none⟩)) rfl rfl rfl (fun za zC zh zk => ix_27 (k := 1) rfl (zh.ev rfl) rfl (zh.ev rfl) (by first | omega | (simp; omega)) zk) ?_
          refine WL.step (post := fun _ w' => Upd ob w9 w' ∧ IRow w' 3 ob (2 + 4 * n) (gset ((outG n l i)) 1 ((((outG n l i) 1) + 1)))) rfl rfl rfl (fun za zC zh zk => st_3 rfl (zh.ev rfl) (zh.ev rfl) (ho12).blk (IRow.size ho12 (by omega)) (fun v => zk v _ ⟨Upd.at_ _ _ _ _, IRow.setAt ho12 _ (by omega) (by omega)⟩)) ?_
          rintro v26 w23 ⟨hu24, hM25⟩
          have hb27 := upd_below hb11 hu24 (by omega)
          refine WL.nil (WE.sub (K' := [(0, .int .i64 (((n : Nat) : Int))), (1, .slice a l.length c), (4, .slice none 0 0), (5, .slice ((some ⟨ob, 0, none⟩)) ((2 + 4 * n)) ((2 + 4 * n))), (6, .int .i64 (((i : Nat) : Int))), (7, .int .i64 1), (15, .bool (((decide ((((n : Nat) : Int) : Int) < (0 : Int))) || (decide ((96 : Int) < (((n : Nat) : Int) : Int)))))), (23, .bool ((decide ((((i : Nat) : Int) : Int) < (((l.length : Nat) : Int) : Int))))), (30, .bool ((lget l i).neg))]) ⟨rfl, rfl, rfl, rfl, rfl, rfl, rfl, rfl, rfl, trivial⟩ ?_)
          refine WE.next ?_
          refine WC.seq ?_
          refine WC.region ?_
          refine WL.val (.int .i64 0) rfl rfl rfl (fun za zC zh zk => wp_assign rfl (zh.ev rfl) zk) ?_
          refine WL.nil (WE.sub (K' := [(0, .int .i64 (((n : Nat) : Int))), (1, .slice a l.length c), (4, .slice none 0 0), (5, .slice ((some ⟨ob, 0, none⟩)) ((2 + 4 * n)) ((2 + 4 * n))), (6, .int .i64 (((i : Nat) : Int))), (7, .int .i64 1), (8, .int .i64 0), (15, .bool (((decide ((((n : Nat) : Int) : Int) < (0 : Int))) || (decide ((96 : Int) < (((n : Nat) : Int) : Int)))))), (23, .bool ((decide ((((i : Nat) : Int) : Int) < (((l.length : Nat) : Int) : Int))))), (30, .bool ((lget l i).neg))]) ⟨rfl, rfl, rfl, rfl, rfl, rfl, rfl, rfl, rfl, rfl, trivial⟩ ?_)
          refine WE.next ?_
          refine WC.block ?_
          have hway : 1 = (lget l i).way := li_way (by simpa using h22) rfl
          have hg1 : ∀ k, 0 ≤ (gset (outG n l i) 1 (outG n l i 1 + 1)) k := inc_nonneg hg0
          have hg1b : ∀ k, evn k → (gset (outG n l i) 1 (outG n l i 1 + 1)) k ≤ i * 17179869184 + 1 := fun k hk => gset_ev hgb (by unfold evn; omega) hk
          refine WC.loop (X := Nat) (fun f => n - f) (fun f => [(0, .int .i64 (((n : Nat) : Int))), (1, .slice a l.length c), (4, .slice none 0 0), (5, .slice ((some ⟨ob, 0, none⟩)) ((2 + 4 * n)) ((2 + 4 * n))), (6, .int .i64 (((i : Nat) : Int))), (7, .int .i64 1), (8, .int .i64 (((f : Nat) : Int))), (15, .bool (((decide ((((n : Nat) : Int) : Int) < (0 : Int))) || (decide ((96 : Int) < (((n : Nat) : Int) : Int)))))), (23, .bool ((decide ((((i : Nat) : Int) : Int) < (((l.length : Nat) : Int) : Int))))), (30, .bool ((lget l i).neg))]) (fun f w28 => f ≤ n ∧ Below w.heap.size w w28 ∧ IRow (w28) 3 ob (2 + 4 * n) (rG (lget l i) (gset (outG n l i) 1 (outG n l i 1 + 1)) f)) 0 ⟨rfl, rfl, rfl, rfl, rfl, rfl, rfl, rfl, rfl, rfl, trivial⟩ ?_ ?_
          · exact ⟨Nat.zero_le _, hb27, hM25⟩
          · rintro f w28 ⟨hfn, hb29, ho30⟩
            have hf0 : ∀ k, 0 ≤ (rG (lget l i) (gset (outG n l i) 1 (outG n l i 1 + 1)) f) k := fun k => rG_nonneg hg1 f k
            have hf1 : ∀ k, evn k → (rG (lget l i) (gset (outG n l i) 1 (outG n l i 1 + 1)) f) k ≤ i * 17179869184 + 1 + 8589934592 := fun k hk => rG_ev hg1 hg1b (hpl (by omega)) (hpr (by omega)) f k hk
            refine WC.seq ?_
            refine WC.seq ?_
            refine WC.region ?_
            refine WL.val (.int .i64 (((f : Nat) : Int))) rfl rfl rfl (fun za zC zh zk => wp_move rfl (zh.ev rfl) zk) ?_
            refine WL.val (.int .i64 (((n : Nat) : Int))) rfl rfl rfl (fun za zC zh zk => wp_move rfl (zh.ev rfl) zk) ?_
            refine WL.val (.bool ((decide ((((f : Nat) : Int) : Int) < (((n : Nat) : Int) : Int))))) rfl rfl rfl (fun za zC zh zk => lss_3 rfl (zh.ev rfl) (zh.ev rfl) zk) ?_
            refine WL.nil (WE.sub (K' := [(0, .int .i64 (((n : Nat) : Int))), (1, .slice a l.length c), (4, .slice none 0 0), (5, .slice ((some ⟨ob, 0, none⟩)) ((2 + 4 * n)) ((2 + 4 * n))), (6, .int .i64 (((i : Nat) : Int))), (7, .int .i64 1), (8, .int .i64 (((f : Nat) : Int))), (15, .bool (((decide ((((n : Nat) : Int) : Int) < (0 : Int))) || (decide ((96 : Int) < (((n : Nat) : Int) : Int)))))), (23, .bool ((decide ((((i : Nat) : Int) : Int) < (((l.length : Nat) : Int) : Int))))), (30, .bool ((lget l i).neg)), (39, .bool ((decide ((((f : Nat) : Int) : Int) < (((n : Nat) : Int) : Int)))))]) ⟨rfl, rfl, rfl, rfl, rfl, rfl, rfl, rfl, rfl, rfl, rfl, trivial⟩ ?_)
            refine WE.next ?_
            refine WC.cond rfl (fun h31 => ?_) (fun h31 => ?_)
            · have h31 : (((f : Nat) : Int) : Int) < (((n : Nat) : Int) : Int) := by simpa using h31
              have hfl : f < n := by omega
              refine WC.skip ?_
              refine WE.next ?_
              refine WC.seq ?_
              refine WC.block ?_
              refine WC.seq ?_
              refine WC.region ?_
              refine WL.val (.int .i64 (((f : Nat) : Int))) rfl rfl rfl (fun za zC zh zk => wp_move rfl (zh.ev rfl) zk) ?_
              refine WL.val (.int .i64 ((((4 * f) : Nat) : Int))) rfl rfl rfl (fun za zC zh zk => mulb_3 rfl (zh.ev rfl) (zh.ev rfl) (wrap_eq (by omega) (by omega) (by omega)) zk) ?_
              refine WL.val (.int .i64 ((((2 + 4 * f) : Nat) : Int))) rfl rfl rfl (fun za zC zh zk => addb_3 rfl (zh.ev rfl) (zh.ev rfl) (wrap_eq (by omega) (by omega) (by omega)) zk) ?_
              refine WL.val (.int .i64 1) rfl rfl rfl (fun za zC zh zk => wp_move rfl (zh.ev rfl) zk) ?_
              refine WL.val (.int .i64 ((((2 * 1) : Nat) : Int))) rfl rfl rfl (fun za zC zh zk => mulb_3 rfl (zh.ev rfl) (zh.ev rfl) (wrap_eq (by omega) (by omega) (by omega)) zk) ?_
              refine WL.val (.int .i64 ((((2 + 4 * f + 2 * 1) : Nat) : Int))) rfl rfl rfl (fun za zC zh zk => addb_3 rfl (zh.ev rfl) (zh.ev rfl) (wrap_eq (by omega) (by omega) (by omega)) zk) ?_
              refine WL.val (.int .i64 ((((2 + 4 * f + 2 * 1) : Nat) : Int))) rfl rfl rfl (fun za zC zh zk => wp_assign rfl (zh.ev rfl) zk) ?_
              refine WL.nil (WE.sub (K' := [(0, .int .i64 (((n : Nat) : Int))), (1, .slice a l.length c), (4, .slice none 0 0), (5, .slice ((some ⟨ob, 0, none⟩)) ((2 + 4 * n)) ((2 + 4 * n))), (6, .int .i64 (((i : Nat) : Int))), (7, .int .i64 1), (8, .int .i64 (((f : Nat) : Int))), (9, .int .i64 ((((2 + 4 * f + 2 * 1) : Nat) : Int))), (15, .bool (((decide ((((n : Nat) : Int) : Int) < (0 : Int))) || (decide ((96 : Int) < (((n : Nat) : Int) : Int)))))), (23, .bool ((decide ((((i : Nat) : Int) : Int) < (((l.length : Nat) : Int) : Int))))), (30, .bool ((lget l i).neg)), (39, .bool ((decide ((((f : Nat) : Int) : Int) < (((n : Nat) : Int) : Int)))))]) ⟨rfl, rfl, rfl, rfl, rfl, rfl, rfl, rfl, rfl, rfl, rfl, rfl, trivial⟩ ?_)
              refine WE.next ?_
              refine WC.seq ?_
              refine WC.seq ?_
              refine WC.region ?_
              refine WL.val (.slice a l.length c) rfl rfl rfl (fun za zC zh zk => wp_move rfl (zh.ev rfl) zk) ?_
              refine WL.val (.int .i64 (((i : Nat) : Int))) rfl rfl rfl (fun za zC zh zk => wp_move rfl (zh.ev rfl) zk) ?_
              refine WL.val (.pointer (some ⟨b14, o15 + i * 5, none⟩)) rfl rfl rfl (fun za zC zh zk => ix_23 (k := i) rfl (zh.ev rfl) (ha20 i (by first | omega | (simp; omega))) (zh.ev rfl) (by first | omega | (simp; omega)) zk) ?_
              refine WL.val (.pointer (some ⟨b14, o15 + i * 5 + 1, none⟩)) rfl rfl rfl (fun za zC zh zk => fld_34_1 rfl (zh.ev rfl) zk) ?_
              refine WL.val (.agg #[.int .i64 ((lget l i).l.f), .slice ((A16 i)) ((lget l i).l.args.length) ((C17 i))]) rfl rfl rfl (fun za zC zh zk => ld_32 rfl (zh.ev rfl) (bkeeps hb29 _ _ (hc21 i (by first | omega | (simp; omega))).2.1) (bkeeps hb29 _ _ (hc21 i (by first | omega | (simp; omega))).2.2.1) zk) ?_
              refine WL.call rfl rfl rfl (fun za zh zC => wp_call (by kernel_rfl) rfl (hv1 (zh.ev rfl))) (rtrue_any ((lget l i).l) _ _ (IsT.below hb29 (InT.isT (hc21 i (by first | omega | (simp; omega))).2.2.2.2.2.1))) ?_
              rintro _ w33 ⟨rfl, hq32⟩
              refine WL.val (.bool ((!(lget l i).l.isTrue))) rfl rfl rfl (fun za zC zh zk => wp_not rfl (zh.ev rfl) zk) ?_
              refine WL.nil (WE.sub (K' := [(0, .int .i64 (((n : Nat) : Int))), (1, .slice a l.length c), (4, .slice none 0 0), (5, .slice ((some ⟨ob, 0, none⟩)) ((2 + 4 * n)) ((2 + 4 * n))), (6, .int .i64 (((i : Nat) : Int))), (7, .int .i64 1), (8, .int .i64 (((f : Nat) : Int))), (9, .int .i64 ((((2 + 4 * f + 2 * 1) : Nat) : Int))), (15, .bool (((decide ((((n : Nat) : Int) : Int) < (0 : Int))) || (decide ((96 : Int) < (((n : Nat) : Int) : Int)))))), (23, .bool ((decide ((((i : Nat) : Int) : Int) < (((l.length : Nat) : Int) : Int))))), (30, .bool ((lget l i).neg)), (39, .bool ((decide ((((f : Nat) : Int) : Int) < (((n : Nat) : Int) : Int))))), (54, .bool ((!(lget l i).l.isTrue)))]) ⟨rfl, rfl, rfl, rfl, rfl, rfl, rfl, rfl, rfl, rfl, rfl, rfl, rfl, trivial⟩ ?_)
              refine WE.next ?_
              refine WC.cond rfl (fun h34 => ?_) (fun h34 => ?_)
              · have h34 : ¬ ((lget l i).l.isTrue = true) := by simpa using h34
                have htL : ¬ (lget l i).l.isTrue = true := by simpa using h34
                have hL0 : ∀ k, 0 ≤ (refS 1 f (lget l i).l (rG (lget l i) (gset (outG n l i) 1 (outG n l i 1 + 1)) f)) k := fun k => refS_nonneg hf0 k
                have hL1 : ∀ k, evn k → (refS 1 f (lget l i).l (rG (lget l i) (gset (outG n l i) 1 (outG n l i 1 + 1)) f)) k ≤ i * 17179869184 + 1 + 8589934592 + 4294967296 := fun k hk => refS_ev hf0 hf1 (hpl hil) k hk
                refine WC.seq ?_
                have ho35 := ho30.below hq32
                have hb36 : Below w.heap.size w w33 := (bstep hb29 hq32)
                have hSlt : ∀ b, (fun b => b = ob) b → b < w33.heap.size := fun b e => e ▸ ho35.lt
                refine WC.tail1 (S := ((fun b => b = ob))) [(true, .val (.slice ((some ⟨ob, 0, none⟩)) ((2 + 4 * n)) ((2 + 4 * n)))), (true, .val (.int .i64 ((((2 + 4 * f + 2 * 1) : Nat) : Int)))), (true, .val (.slice ((some ⟨ob, 0, none⟩)) ((2 + 4 * n)) ((2 + 4 * n)))), (true, .val (.int .i64 ((((2 + 4 * f + 2 * 1) : Nat) : Int)))), (true, .val (.pointer (some ⟨ob, 0 + ((2 + 4 * f + 2 * 1)), none⟩))), (true, .val (.int .i64 (((rG (lget l i) (gset (outG n l i) 1 (outG n l i 1 + 1)) f) ((2 + 4 * f + 2 * 1)))))), (true, .val (.slice a l.length c)), (true, .val (.int .i64 (((i : Nat) : Int)))), (true, .val (.pointer (some ⟨b14, o15 + i * 5, none⟩))), (true, .val (.pointer (some ⟨b14, o15 + i * 5 + 1, none⟩))), (true, .val (.agg #[.int .i64 ((lget l i).l.f), .slice ((A16 i)) ((lget l i).l.args.length) ((C17 i))])), (true, .val (.int .i64 (((f : Nat) : Int)))), (true, .val (.int .i64 (((((lget l i).l.often f) : Nat) : Int)))), (true, .val (.int .i64 ((((rG (lget l i) (gset (outG n l i) 1 (outG n l i 1 + 1)) f) ((2 + 4 * f + 2 * 1))) + ((((lget l i).l.often f) : Nat) : Int))))), (true, .val (.pointer (some ⟨ob, 0 + ((2 + 4 * f + 2 * 1)), none⟩))), (true, .val undef)] [(0, .int .i64 (((n : Nat) : Int))), (1, .slice a l.length c), (4, .slice none 0 0), (5, .slice ((some ⟨ob, 0, none⟩)) ((2 + 4 * n)) ((2 + 4 * n))), (6, .int .i64 (((i : Nat) : Int))), (7, .int .i64 1), (8, .int .i64 (((f : Nat) : Int))), (9, .int .i64 ((((2 + 4 * f + 2 * 1) : Nat) : Int))), (15, .bool (((decide ((((n : Nat) : Int) : Int) < (0 : Int))) || (decide ((96 : Int) < (((n : Nat) : Int) : Int)))))), (23, .bool ((decide ((((i : Nat) : Int) : Int) < (((l.length : Nat) : Int) : Int))))), (30, .bool ((lget l i).neg)), (39, .bool ((decide ((((f : Nat) : Int) : Int) < (((n : Nat) : Int) : Int))))), (54, .bool ((!(lget l i).l.isTrue)))] 15 (fun wz => IRow wz 3 ob (2 + 4 * n) (gset ((rG (lget l i) (gset (outG n l i) 1 (outG n l i 1 + 1)) f)) ((2 + 4 * f + 2 * 1)) ((((rG (lget l i) (gset (outG n l i) 1 (outG n l i 1 + 1)) f) ((2 + 4 * f + 2 * 1))) + ((((lget l i).l.often f) : Nat) : Int))))) (fun w w' hb h => h.below hb) ⟨rfl, rfl, rfl, rfl, rfl, rfl, rfl, rfl, rfl, rfl, rfl, rfl, rfl, trivial⟩ (by kernel_rfl) (by kernel_rfl) (by kernel_rfl) (by kernel_rfl) ?_ ?_
                · refine ⟨.inl ⟨rfl, true, .none rfl, (fun gg b h => by cases h), fun h w => optUndef h, fun zβ za zw zc => ?_⟩, ?_⟩
                  · exact wp_move rfl (zc.kn.ev rfl) ⟨_, rfl, Below.refl _ _, optDef zβ rfl⟩
                  refine ⟨.inl ⟨rfl, true, .none rfl, (fun gg b h => by cases h), fun h w => optUndef h, fun zβ za zw zc => ?_⟩, ?_⟩
                  · exact wp_move rfl (zc.kn.ev rfl) ⟨_, rfl, Below.refl _ _, optDef zβ rfl⟩
                  refine ⟨.inl ⟨rfl, true, .none rfl, (fun gg b h => by cases h), fun h w => optUndef h, fun zβ za zw zc => ?_⟩, ?_⟩
                  · exact wp_move rfl (zc.kn.ev rfl) ⟨_, rfl, Below.refl _ _, optDef zβ rfl⟩
                  refine ⟨.inl ⟨rfl, true, .none rfl, (fun gg b h => by cases h), fun h w => optUndef h, fun zβ za zw zc => ?_⟩, ?_⟩
                  · exact wp_move rfl (zc.kn.ev rfl) ⟨_, rfl, Below.refl _ _, optDef zβ rfl⟩
                  refine ⟨.inl ⟨rfl, true, .none rfl, (fun gg b h => by cases h), fun h w => optUndef h, fun zβ za zw zc => ?_⟩, ?_⟩
                  · exact ix_27 (k := (2 + 4 * f + 2 * 1)) rfl ((show za.eval (.tmp 57) = za.tmps.getD 57 undef from rfl).trans (optSVal (zc.dep 2 57 (by kernel_rfl) (by decide)) rfl rfl)) rfl ((show za.eval (.tmp 58) = za.tmps.getD 58 undef from rfl).trans (optSVal (zc.dep 3 58 (by kernel_rfl) (by decide)) rfl rfl)) (by first | omega | (simp; omega)) ⟨_, rfl, Below.refl _ _, optDef zβ rfl⟩
                  refine ⟨.inl ⟨rfl, true, .none rfl, (fun gg b h => by cases h), fun h w => optUndef h, fun zβ za zw zc => ?_⟩, ?_⟩
                  · exact ld_3 rfl ((show za.eval (.tmp 59) = za.tmps.getD 59 undef from rfl).trans (optSVal (zc.dep 4 59 (by kernel_rfl) (by decide)) rfl rfl)) (bkeeps (zc.early (by kernel_rfl)) _ _ (IRow.cellAt ho35 (by omega) (by omega))) ⟨_, rfl, Below.refl _ _, optDef zβ rfl⟩
                  refine ⟨.inl ⟨rfl, true, .none rfl, (fun gg b h => by cases h), fun h w => optUndef h, fun zβ za zw zc => ?_⟩, ?_⟩
                  · exact wp_move rfl (zc.kn.ev rfl) ⟨_, rfl, Below.refl _ _, optDef zβ rfl⟩
                  refine ⟨.inl ⟨rfl, true, .none rfl, (fun gg b h => by cases h), fun h w => optUndef h, fun zβ za zw zc => ?_⟩, ?_⟩
                  · exact wp_move rfl (zc.kn.ev rfl) ⟨_, rfl, Below.refl _ _, optDef zβ rfl⟩
                  refine ⟨.inl ⟨rfl, true, .none rfl, (fun gg b h => by cases h), fun h w => optUndef h, fun zβ za zw zc => ?_⟩, ?_⟩
                  · exact ix_23 (k := i) rfl ((show za.eval (.tmp 61) = za.tmps.getD 61 undef from rfl).trans (optSVal (zc.dep 6 61 (by kernel_rfl) (by decide)) rfl rfl)) (ha20 i (by first | omega | (simp; omega))) ((show za.eval (.tmp 62) = za.tmps.getD 62 undef from rfl).trans (optSVal (zc.dep 7 62 (by kernel_rfl) (by decide)) rfl rfl)) (by first | omega | (simp; omega)) ⟨_, rfl, Below.refl _ _, optDef zβ rfl⟩
                  refine ⟨.inl ⟨rfl, true, .none rfl, (fun gg b h => by cases h), fun h w => optUndef h, fun zβ za zw zc => ?_⟩, ?_⟩
                  · exact fld_34_1 rfl ((show za.eval (.tmp 63) = za.tmps.getD 63 undef from rfl).trans (optSVal (zc.dep 8 63 (by kernel_rfl) (by decide)) rfl rfl)) ⟨_, rfl, Below.refl _ _, optDef zβ rfl⟩
                  refine ⟨.inl ⟨rfl, true, .none rfl, (fun gg b h => by cases h), fun h w => optUndef h, fun zβ za zw zc => ?_⟩, ?_⟩
                  · exact ld_32 rfl ((show za.eval (.tmp 64) = za.tmps.getD 64 undef from rfl).trans (optSVal (zc.dep 9 64 (by kernel_rfl) (by decide)) rfl rfl)) (bkeeps (bstep hb36 (zc.early (by kernel_rfl))) _ _ (hc21 i (by first | omega | (simp; omega))).2.1) (bkeeps (bstep hb36 (zc.early (by kernel_rfl))) _ _ (hc21 i (by first | omega | (simp; omega))).2.2.1) ⟨_, rfl, Below.refl _ _, optDef zβ rfl⟩
                  refine ⟨.inl ⟨rfl, true, .none rfl, (fun gg b h => by cases h), fun h w => optUndef h, fun zβ za zw zc => ?_⟩, ?_⟩
                  · exact wp_move rfl (zc.kn.ev rfl) ⟨_, rfl, Below.refl _ _, optDef zβ rfl⟩
                  refine ⟨.inl ⟨rfl, true, .none rfl, (fun gg b h => by cases h), fun h w => optUndef h, fun zβ za zw zc => ?_⟩, ?_⟩
                  · exact wp_call (by kernel_rfl) rfl (hv2 ((show za.eval (.tmp 65) = za.tmps.getD 65 undef from rfl).trans (optSVal (zc.dep 10 65 (by kernel_rfl) (by decide)) rfl rfl)) ((show za.eval (.tmp 66) = za.tmps.getD 66 undef from rfl).trans (optSVal (zc.dep 11 66 (by kernel_rfl) (by decide)) rfl rfl))) (often_any f (by omega) ((lget l i).l) _ _ (hpl hil) (IsT.below (bstep hb36 (zc.early (by kernel_rfl))) (InT.isT (hc21 i (by first | omega | (simp; omega))).2.2.2.2.2.1))) (fun v w' h => ⟨v, rfl, h.2, optDef zβ h.1⟩)
                  refine ⟨.inl ⟨rfl, true, .none rfl, (fun gg b h => by cases h), fun h w => optUndef h, fun zβ za zw zc => ?_⟩, ?_⟩
                  · exact addb_3 rfl ((show za.eval (.tmp 60) = za.tmps.getD 60 undef from rfl).trans (optSVal (zc.dep 5 60 (by kernel_rfl) (by decide)) rfl rfl)) ((show za.eval (.tmp 67) = za.tmps.getD 67 undef from rfl).trans (optSVal (zc.dep 12 67 (by kernel_rfl) (by decide)) rfl rfl)) (wrap_eq rfl (by have z := hf0 (2 + 4 * f + 2 * 1); omega) (by have z := hf1 (2 + 4 * f + 2 * 1) (by unfold evn; omega); have z2 := T.often_le (lget l i).l f; have z3 := hpl hil; omega)) ⟨_, rfl, Below.refl _ _, optDef zβ rfl⟩
                  refine ⟨.inl ⟨rfl, true, .none rfl, (fun gg b h => by cases h), fun h w => optUndef h, fun zβ za zw zc => ?_⟩, ?_⟩
                  · exact ix_27 (k := (2 + 4 * f + 2 * 1)) rfl ((show za.eval (.tmp 55) = za.tmps.getD 55 undef from rfl).trans (optSVal (zc.dep 0 55 (by kernel_rfl) (by decide)) rfl rfl)) rfl ((show za.eval (.tmp 56) = za.tmps.getD 56 undef from rfl).trans (optSVal (zc.dep 1 56 (by kernel_rfl) (by decide)) rfl rfl)) (by first | omega | (simp; omega)) ⟨_, rfl, Below.refl _ _, optDef zβ rfl⟩
                  refine ⟨.inr ⟨rfl, rfl, fun za zw zc => ?_⟩, ?_⟩
                  · have zm := ho35.below zc.below
                    exact st_3 rfl ((show za.eval (.tmp 69) = za.tmps.getD 69 undef from rfl).trans (optSVal (zc.dep 14 69 (by kernel_rfl) (by decide)) rfl rfl)) ((show za.eval (.tmp 68) = za.tmps.getD 68 undef from rfl).trans (optSVal (zc.dep 13 68 (by kernel_rfl) (by decide)) rfl rfl)) zm.blk (IRow.size zm (by omega)) (fun v => ⟨v, rfl, IRow.setAt zm _ (by omega) (by omega), .ofUpd (Upd.at_ _ _ _ _) rfl⟩)
                  exact trivial
                · intro za w38 zh hG39 hc40 zu
                  have hb41 := chg_below hb36 hc40 (fun b hb => (by (try dsimp only at *); omega))
                  clear zu
                  refine (show WE _ [(0, .int .i64 (((n : Nat) : Int))), (1, .slice a l.length c), (4, .slice none 0 0), (5, .slice ((some ⟨ob, 0, none⟩)) ((2 + 4 * n)) ((2 + 4 * n))), (6, .int .i64 (((i : Nat) : Int))), (7, .int .i64 1), (8, .int .i64 (((f : Nat) : Int))), (9, .int .i64 ((((2 + 4 * f + 2 * 1) : Nat) : Int))), (15, .bool (((decide ((((n : Nat) : Int) : Int) < (0 : Int))) || (decide ((96 : Int) < (((n : Nat) : Int) : Int)))))), (23, .bool ((decide ((((i : Nat) : Int) : Int) < (((l.length : Nat) : Int) : Int))))), (30, .bool ((lget l i).neg)), (39, .bool ((decide ((((f : Nat) : Int) : Int) < (((n : Nat) : Int) : Int))))), (54, .bool ((!(lget l i).l.isTrue)))] w38 _ .normal from ?_) za (zh.sub ⟨rfl, rfl, rfl, rfl, rfl, rfl, rfl, rfl, rfl, rfl, rfl, rfl, rfl, trivial⟩)
                  refine WE.next ?_
                  have hSlt : ∀ b, (fun b => b = ob) b → b < w38.heap.size := fun b e => e ▸ hG39.lt
                  refine WC.tail1 (S := ((fun b => b = ob))) [(true, .val (.slice ((some ⟨ob, 0, none⟩)) ((2 + 4 * n)) ((2 + 4 * n)))), (true, .val (.int .i64 ((((2 + 4 * f + 2 * 1) : Nat) : Int)))), (true, .val (.int .i64 (((((2 + 4 * f + 2 * 1) + 1) : Nat) : Int)))), (true, .val (.slice ((some ⟨ob, 0, none⟩)) ((2 + 4 * n)) ((2 + 4 * n)))), (true, .val (.int .i64 ((((2 + 4 * f + 2 * 1) : Nat) : Int)))), (true, .val (.int .i64 (((((2 + 4 * f + 2 * 1) + 1) : Nat) : Int)))), (true, .val (.pointer (some ⟨ob, 0 + (((2 + 4 * f + 2 * 1) + 1)), none⟩))), (true, .val (.int .i64 (((gset ((rG (lget l i) (gset (outG n l i) 1 (outG n l i 1 + 1)) f)) ((2 + 4 * f + 2 * 1)) ((((rG (lget l i) (gset (outG n l i) 1 (outG n l i 1 + 1)) f) ((2 + 4 * f + 2 * 1))) + ((((lget l i).l.often f) : Nat) : Int)))) (((2 + 4 * f + 2 * 1) + 1)))))), (true, .val (.slice a l.length c)), (true, .val (.int .i64 (((i : Nat) : Int)))), (true, .val (.pointer (some ⟨b14, o15 + i * 5, none⟩))), (true, .val (.pointer (some ⟨b14, o15 + i * 5 + 1, none⟩))), (true, .val (.agg #[.int .i64 ((lget l i).l.f), .slice ((A16 i)) ((lget l i).l.args.length) ((C17 i))])), (true, .val (.int .i64 (((f : Nat) : Int)))), (true, .val (.int .i64 (((((lget l i).l.deep f 1) : Nat) : Int)))), (true, .val (.int .i64 ((max (((gset ((rG (lget l i) (gset (outG n l i) 1 (outG n l i 1 + 1)) f)) ((2 + 4 * f + 2 * 1)) ((((rG (lget l i) (gset (outG n l i) 1 (outG n l i 1 + 1)) f) ((2 + 4 * f + 2 * 1))) + ((((lget l i).l.often f) : Nat) : Int)))) (((2 + 4 * f + 2 * 1) + 1)))) (((((lget l i).l.deep f 1) : Nat) : Int)))))), (true, .val (.pointer (some ⟨ob, 0 + (((2 + 4 * f + 2 * 1) + 1)), none⟩))), (true, .val undef)] [(0, .int .i64 (((n : Nat) : Int))), (1, .slice a l.length c), (4, .slice none 0 0), (5, .slice ((some ⟨ob, 0, none⟩)) ((2 + 4 * n)) ((2 + 4 * n))), (6, .int .i64 (((i : Nat) : Int))), (7, .int .i64 1), (8, .int .i64 (((f : Nat) : Int))), (9, .int .i64 ((((2 + 4 * f + 2 * 1) : Nat) : Int))), (15, .bool (((decide ((((n : Nat) : Int) : Int) < (0 : Int))) || (decide ((96 : Int) < (((n : Nat) : Int) : Int)))))), (23, .bool ((decide ((((i : Nat) : Int) : Int) < (((l.length : Nat) : Int) : Int))))), (30, .bool ((lget l i).neg)), (39, .bool ((decide ((((f : Nat) : Int) : Int) < (((n : Nat) : Int) : Int))))), (54, .bool ((!(lget l i).l.isTrue)))] 17 (fun wz => IRow wz 3 ob (2 + 4 * n) (gset ((gset ((rG (lget l i) (gset (outG n l i) 1 (outG n l i 1 + 1)) f)) ((2 + 4 * f + 2 * 1)) ((((rG (lget l i) (gset (outG n l i) 1 (outG n l i 1 + 1)) f) ((2 + 4 * f + 2 * 1))) + ((((lget l i).l.often f) : Nat) : Int))))) (((2 + 4 * f + 2 * 1) + 1)) ((max (((gset ((rG (lget l i) (gset (outG n l i) 1 (outG n l i 1 + 1)) f)) ((2 + 4 * f + 2 * 1)) ((((rG (lget l i) (gset (outG n l i) 1 (outG n l i 1 + 1)) f) ((2 + 4 * f + 2 * 1))) + ((((lget l i).l.often f) : Nat) : Int)))) (((2 + 4 * f + 2 * 1) + 1)))) (((((lget l i).l.deep f 1) : Nat) : Int)))))) (fun w w' hb h => h.below hb) ⟨rfl, rfl, rfl, rfl, rfl, rfl, rfl, rfl, rfl, rfl, rfl, rfl, rfl, trivial⟩ (by kernel_rfl) (by kernel_rfl) (by kernel_rfl) (by kernel_rfl) ?_ ?_
                  · refine ⟨.inl ⟨rfl, true, .none rfl, (fun gg b h => by cases h), fun h w => optUndef h, fun zβ za zw zc => ?_⟩, ?_⟩
                    · exact wp_move rfl (zc.kn.ev rfl) ⟨_, rfl, Below.refl _ _, optDef zβ rfl⟩
                    refine ⟨.inl ⟨rfl, true, .none rfl, (fun gg b h => by cases h), fun h w => optUndef h, fun zβ za zw zc => ?_⟩, ?_⟩
                    · exact wp_move rfl (zc.kn.ev rfl) ⟨_, rfl, Below.refl _ _, optDef zβ rfl⟩
                    refine ⟨.inl ⟨rfl, true, .none rfl, (fun gg b h => by cases h), fun h w => optUndef h, fun zβ za zw zc => ?_⟩, ?_⟩
                    · exact addb_3 rfl ((show za.eval (.tmp 71) = za.tmps.getD 71 undef from rfl).trans (optSVal (zc.dep 1 71 (by kernel_rfl) (by decide)) rfl rfl)) (zc.kn.ev rfl) (wrap_eq (by omega) (by omega) (by omega)) ⟨_, rfl, Below.refl _ _, optDef zβ rfl⟩
                    refine ⟨.inl ⟨rfl, true, .none rfl, (fun gg b h => by cases h), fun h w => optUndef h, fun zβ za zw zc => ?_⟩, ?_⟩
                    · exact wp_move rfl (zc.kn.ev rfl) ⟨_, rfl, Below.refl _ _, optDef zβ rfl⟩
                    refine ⟨.inl ⟨rfl, true, .none rfl, (fun gg b h => by cases h), fun h w => optUndef h, fun zβ za zw zc => ?_⟩, ?_⟩
                    · exact wp_move rfl (zc.kn.ev rfl) ⟨_, rfl, Below.refl _ _, optDef zβ rfl⟩
                    refine ⟨.inl ⟨rfl, true, .none rfl, (fun gg b h => by cases h), fun h w => optUndef h, fun zβ za zw zc => ?_⟩, ?_⟩
                    · exact addb_3 rfl ((show za.eval (.tmp 74) = za.tmps.getD 74 undef from rfl).trans (optSVal (zc.dep 4 74 (by kernel_rfl) (by decide)) rfl rfl)) (zc.kn.ev rfl) (wrap_eq (by omega) (by omega) (by omega)) ⟨_, rfl, Below.refl _ _, optDef zβ rfl⟩
                    refine ⟨.inl ⟨rfl, true, .none rfl, (fun gg b h => by cases h), fun h w => optUndef h, fun zβ za zw zc => ?_⟩, ?_⟩
                    · exact ix_27 (k := ((2 + 4 * f + 2 * 1) + 1)) rfl ((show za.eval (.tmp 73) = za.tmps.getD 73 undef from rfl).trans (optSVal (zc.dep 3 73 (by kernel_rfl) (by decide)) rfl rfl)) rfl ((show za.eval (.tmp 75) = za.tmps.getD 75 undef from rfl).trans (optSVal (zc.dep 5 75 (by kernel_rfl) (by decide)) rfl rfl)) (by first | omega | (simp; omega)) ⟨_, rfl, Below.refl _ _, optDef zβ rfl⟩
                    refine ⟨.inl ⟨rfl, true, .none rfl, (fun gg b h => by cases h), fun h w => optUndef h, fun zβ za zw zc => ?_⟩, ?_⟩
                    · exact ld_3 rfl ((show za.eval (.tmp 76) = za.tmps.getD 76 undef from rfl).trans (optSVal (zc.dep 6 76 (by kernel_rfl) (by decide)) rfl rfl)) (bkeeps (zc.early (by kernel_rfl)) _ _ (IRow.cellAt hG39 (by omega) (by omega))) ⟨_, rfl, Below.refl _ _, optDef zβ rfl⟩
                    refine ⟨.inl ⟨rfl, true, .none rfl, (fun gg b h => by cases h), fun h w => optUndef h, fun zβ za zw zc => ?_⟩, ?_⟩
                    · exact wp_move rfl (zc.kn.ev rfl) ⟨_, rfl, Below.refl _ _, optDef zβ rfl⟩
                    refine ⟨.inl ⟨rfl, true, .none rfl, (fun gg b h => by cases h), fun h w => optUndef h, fun zβ za zw zc => ?_⟩, ?_⟩
                    · exact wp_move rfl (zc.kn.ev rfl) ⟨_, rfl, Below.refl _ _, optDef zβ rfl⟩
                    refine ⟨.inl ⟨rfl, true, .none rfl, (fun gg b h => by cases h), fun h w => optUndef h, fun zβ za zw zc => ?_⟩, ?_⟩
                    · exact ix_23 (k := i) rfl ((show za.eval (.tmp 78) = za.tmps.getD 78 undef from rfl).trans (optSVal (zc.dep 8 78 (by kernel_rfl) (by decide)) rfl rfl)) (ha20 i (by first | omega | (simp; omega))) ((show za.eval (.tmp 79) = za.tmps.getD 79 undef from rfl).trans (optSVal (zc.dep 9 79 (by kernel_rfl) (by decide)) rfl rfl)) (by first | omega | (simp; omega)) ⟨_, rfl, Below.refl _ _, optDef zβ rfl⟩
                    refine ⟨.inl ⟨rfl, true, .none rfl, (fun gg b h => by cases h), fun h w => optUndef h, fun zβ za zw zc => ?_⟩, ?_⟩
                    · exact fld_34_1 rfl ((show za.eval (.tmp 80) = za.tmps.getD 80 undef from rfl).trans (optSVal (zc.dep 10 80 (by kernel_rfl) (by decide)) rfl rfl)) ⟨_, rfl, Below.refl _ _, optDef zβ rfl⟩
                    refine ⟨.inl ⟨rfl, true, .none rfl, (fun gg b h => by cases h), fun h w => optUndef h, fun zβ za zw zc => ?_⟩, ?_⟩
                    · exact ld_32 rfl ((show za.eval (.tmp 81) = za.tmps.getD 81 undef from rfl).trans (optSVal (zc.dep 11 81 (by kernel_rfl) (by decide)) rfl rfl)) (bkeeps (bstep hb41 (zc.early (by kernel_rfl))) _ _ (hc21 i (by first | omega | (simp; omega))).2.1) (bkeeps (bstep hb41 (zc.early (by kernel_rfl))) _ _ (hc21 i (by first | omega | (simp; omega))).2.2.1) ⟨_, rfl, Below.refl _ _, optDef zβ rfl⟩
                    refine ⟨.inl ⟨rfl, true, .none rfl, (fun gg b h => by cases h), fun h w => optUndef h, fun zβ za zw zc => ?_⟩, ?_⟩
                    · exact wp_move rfl (zc.kn.ev rfl) ⟨_, rfl, Below.refl _ _, optDef zβ rfl⟩
                    refine ⟨.inl ⟨rfl, true, .none rfl, (fun gg b h => by cases h), fun h w => optUndef h, fun zβ za zw zc => ?_⟩, ?_⟩
                    · exact wp_call (by kernel_rfl) rfl (hv3 ((show za.eval (.tmp 82) = za.tmps.getD 82 undef from rfl).trans (optSVal (zc.dep 12 82 (by kernel_rfl) (by decide)) rfl rfl)) ((show za.eval (.tmp 83) = za.tmps.getD 83 undef from rfl).trans (optSVal (zc.dep 13 83 (by kernel_rfl) (by decide)) rfl rfl)) (zc.kn.ev rfl)) (deep_any f (by omega) ((lget l i).l) 1 _ _ (by have z := (hpl hil); omega) (hpl hil) (IsT.below (bstep hb41 (zc.early (by kernel_rfl))) (InT.isT (hc21 i (by first | omega | (simp; omega))).2.2.2.2.2.1))) (fun v w' h => ⟨v, rfl, h.2, optDef zβ h.1⟩)
                    refine ⟨.inl ⟨rfl, true, .none rfl, (fun gg b h => by cases h), fun h w => optUndef h, fun zβ za zw zc => ?_⟩, ?_⟩
                    · exact wp_max3 rfl ((show za.eval (.tmp 77) = za.tmps.getD 77 undef from rfl).trans (optSVal (zc.dep 7 77 (by kernel_rfl) (by decide)) rfl rfl)) ((show za.eval (.tmp 84) = za.tmps.getD 84 undef from rfl).trans (optSVal (zc.dep 14 84 (by kernel_rfl) (by decide)) rfl rfl)) rfl ⟨_, rfl, Below.refl _ _, optDef zβ rfl⟩
                    refine ⟨.inl ⟨rfl, true, .none rfl, (fun gg b h => by cases h), fun h w => optUndef h, fun zβ za zw zc => ?_⟩, ?_⟩
                    · exact ix_27 (k := ((2 + 4 * f + 2 * 1) + 1)) rfl ((show za.eval (.tmp 70) = za.tmps.getD 70 undef from rfl).trans (optSVal (zc.dep 0 70 (by kernel_rfl) (by decide)) rfl rfl)) rfl ((show za.eval (.tmp 72) = za.tmps.getD 72 undef from rfl).trans (optSVal (zc.dep 2 72 (by kernel_rfl) (by decide)) rfl rfl)) (by first | omega | (simp; omega)) ⟨_, rfl, Below.refl _ _, optDef zβ rfl⟩
                    refine ⟨.inr ⟨rfl, rfl, fun za zw zc => ?_⟩, ?_⟩
                    · have zm := hG39.below zc.below
                      exact st_3 rfl ((show za.eval (.tmp 86) = za.tmps.getD 86 undef from rfl).trans (optSVal (zc.dep 16 86 (by kernel_rfl) (by decide)) rfl rfl)) ((show za.eval (.tmp 85) = za.tmps.getD 85 undef from rfl).trans (optSVal (zc.dep 15 85 (by kernel_rfl) (by decide)) rfl rfl)) zm.blk (IRow.size zm (by omega)) (fun v => ⟨v, rfl, IRow.setAt zm _ (by omega) (by omega), .ofUpd (Upd.at_ _ _ _ _) rfl⟩)
                    exact trivial
                  · intro za w43 zh hG44 hc45 zu
                    have hb46 := chg_below hb41 hc45 (fun b hb => (by (try dsimp only at *); omega))
                    have hM47 := IRow.congr hG44 (refS_not (way := 1) (f := f) htL).symm
                    clear zu
                    refine (show WE _ [(0, .int .i64 (((n : Nat) : Int))), (1, .slice a l.length c), (4, .slice none 0 0), (5, .slice ((some ⟨ob, 0, none⟩)) ((2 + 4 * n)) ((2 + 4 * n))), (6, .int .i64 (((i : Nat) : Int))), (7, .int .i64 1), (8, .int .i64 (((f : Nat) : Int))), (9, .int .i64 ((((2 + 4 * f + 2 * 1) : Nat) : Int))), (15, .bool (((decide ((((n : Nat) : Int) : Int) < (0 : Int))) || (decide ((96 : Int) < (((n : Nat) : Int) : Int)))))), (23, .bool ((decide ((((i : Nat) : Int) : Int) < (((l.length : Nat) : Int) : Int))))), (30, .bool ((lget l i).neg)), (39, .bool ((decide ((((f : Nat) : Int) : Int) < (((n : Nat) : Int) : Int))))), (54, .bool ((!(lget l i).l.isTrue)))] w43 _ .normal from ?_) za (zh.sub ⟨rfl, rfl, rfl, rfl, rfl, rfl, rfl, rfl, rfl, rfl, rfl, rfl, rfl, trivial⟩)
                    refine WE.next ?_
                    refine WC.seq ?_
                    refine WC.region ?_
                    refine WL.val (.slice a l.length c) rfl rfl rfl (fun za zC zh zk => wp_move rfl (zh.ev rfl) zk) ?_
                    refine WL.val (.int .i64 (((i : Nat) : Int))) rfl rfl rfl (fun za zC zh zk => wp_move rfl (zh.ev rfl) zk) ?_
                    refine WL.val (.pointer (some ⟨b14, o15 + i * 5, none⟩)) rfl rfl rfl (fun za zC zh zk => ix_23 (k := i) rfl (zh.ev rfl) (ha20 i (by first | omega | (simp; omega))) (zh.ev rfl) (by first | omega | (simp; omega)) zk) ?_
                    refine WL.val (.pointer (some ⟨b14, o15 + i * 5 + 3, none⟩)) rfl rfl rfl (fun za zC zh zk => fld_34_2 rfl (zh.ev rfl) zk) ?_
                    refine WL.val (.agg #[.int .i64 ((lget l i).r.f), .slice ((A18 i)) ((lget l i).r.args.length) ((C19 i))]) rfl rfl rfl (fun za zC zh zk => ld_32 rfl (zh.ev rfl) (bkeeps hb46 _ _ (hc21 i (by first | omega | (simp; omega))).2.2.2.1) (bkeeps hb46 _ _ (hc21 i (by first | omega | (simp; omega))).2.2.2.2.1) zk) ?_
                    refine WL.call rfl rfl rfl (fun za zh zC => wp_call (by kernel_rfl) rfl (hv1 (zh.ev rfl))) (rtrue_any ((lget l i).r) _ _ (IsT.below hb46 (InT.isT (hc21 i (by first | omega | (simp; omega))).2.2.2.2.2.2))) ?_
                    rintro _ w49 ⟨rfl, hq48⟩
                    refine WL.val (.bool ((!(lget l i).r.isTrue))) rfl rfl rfl (fun za zC zh zk => wp_not rfl (zh.ev rfl) zk) ?_
                    refine WL.nil (WE.sub (K' := [(0, .int .i64 (((n : Nat) : Int))), (1, .slice a l.length c), (4, .slice none 0 0), (5, .slice ((some ⟨ob, 0, none⟩)) ((2 + 4 * n)) ((2 + 4 * n))), (6, .int .i64 (((i : Nat) : Int))), (7, .int .i64 1), (8, .int .i64 (((f : Nat) : Int))), (9, .int .i64 ((((2 + 4 * f + 2 * 1) : Nat) : Int))), (15, .bool (((decide ((((n : Nat) : Int) : Int) < (0 : Int))) || (decide ((96 : Int) < (((n : Nat) : Int) : Int)))))), (23, .bool ((decide ((((i : Nat) : Int) : Int) < (((l.length : Nat) : Int) : Int))))), (30, .bool ((lget l i).neg)), (39, .bool ((decide ((((f : Nat) : Int) : Int) < (((n : Nat) : Int) : Int))))), (54, .bool ((!(lget l i).l.isTrue))), (93, .bool ((!(lget l i).r.isTrue)))]) ⟨rfl, rfl, rfl, rfl, rfl, rfl, rfl, rfl, rfl, rfl, rfl, rfl, rfl, rfl, trivial⟩ ?_)
                    refine WE.next ?_
                    refine WC.cond rfl (fun h50 => ?_) (fun h50 => ?_)
                    · have h50 : ¬ ((lget l i).r.isTrue = true) := by simpa using h50
                      have htR : ¬ (lget l i).r.isTrue = true := by simpa using h50
                      refine WC.seq ?_
                      have ho51 := hM47.below hq48
                      have hb52 : Below w.heap.size w w49 := (bstep hb46 hq48)
                      have hSlt : ∀ b, (fun b => b = ob) b → b < w49.heap.size := fun b e => e ▸ ho51.lt
                      refine WC.tail1 (S := ((fun b => b = ob))) [(true, .val (.slice ((some ⟨ob, 0, none⟩)) ((2 + 4 * n)) ((2 + 4 * n)))), (true, .val (.int .i64 ((((2 + 4 * f + 2 * 1) : Nat) : Int)))), (true, .val (.slice ((some ⟨ob, 0, none⟩)) ((2 + 4 * n)) ((2 + 4 * n)))), (true, .val (.int .i64 ((((2 + 4 * f + 2 * 1) : Nat) : Int)))), (true, .val (.pointer (some ⟨ob, 0 + ((2 + 4 * f + 2 * 1)), none⟩))), (true, .val (.int .i64 (((refS 1 f (lget l i).l (rG (lget l i) (gset (outG n l i) 1 (outG n l i 1 + 1)) f)) ((2 + 4 * f + 2 * 1)))))), (true, .val (.slice a l.length c)), (true, .val (.int .i64 (((i : Nat) : Int)))), (true, .val (.pointer (some ⟨b14, o15 + i * 5, none⟩))), (true, .val (.pointer (some ⟨b14, o15 + i * 5 + 3, none⟩))), (true, .val (.agg #[.int .i64 ((lget l i).r.f), .slice ((A18 i)) ((lget l i).r.args.length) ((C19 i))])), (true, .val (.int .i64 (((f : Nat) : Int)))), (true, .val (.int .i64 (((((lget l i).r.often f) : Nat) : Int)))), (true, .val (.int .i64 ((((refS 1 f (lget l i).l (rG (lget l i) (gset (outG n l i) 1 (outG n l i 1 + 1)) f)) ((2 + 4 * f + 2 * 1))) + ((((lget l i).r.often f) : Nat) : Int))))), (true, .val (.pointer (some ⟨ob, 0 + ((2 + 4 * f + 2 * 1)), none⟩))), (true, .val undef)] [(0, .int .i64 (((n : Nat) : Int))), (1, .slice a l.length c), (4, .slice none 0 0), (5, .slice ((some ⟨ob, 0, none⟩)) ((2 + 4 * n)) ((2 + 4 * n))), (6, .int .i64 (((i : Nat) : Int))), (7, .int .i64 1), (8, .int .i64 (((f : Nat) : Int))), (9, .int .i64 ((((2 + 4 * f + 2 * 1) : Nat) : Int))), (15, .bool (((decide ((((n : Nat) : Int) : Int) < (0 : Int))) || (decide ((96 : Int) < (((n : Nat) : Int) : Int)))))), (23, .bool ((decide ((((i : Nat) : Int) : Int) < (((l.length : Nat) : Int) : Int))))), (30, .bool ((lget l i).neg)), (39, .bool ((decide ((((f : Nat) : Int) : Int) < (((n : Nat) : Int) : Int))))), (54, .bool ((!(lget l i).l.isTrue))), (93, .bool ((!(lget l i).r.isTrue)))] 15 (fun wz => IRow wz 3 ob (2 + 4 * n) (gset ((refS 1 f (lget l i).l (rG (lget l i) (gset (outG n l i) 1 (outG n l i 1 + 1)) f))) ((2 + 4 * f + 2 * 1)) ((((refS 1 f (lget l i).l (rG (lget l i) (gset (outG n l i) 1 (outG n l i 1 + 1)) f)) ((2 + 4 * f + 2 * 1))) + ((((lget l i).r.often f) : Nat) : Int))))) (fun w w' hb h => h.below hb) ⟨rfl, rfl, rfl, rfl, rfl, rfl, rfl, rfl, rfl, rfl, rfl, rfl, rfl, rfl, trivial⟩ (by kernel_rfl) (by kernel_rfl) (by kernel_rfl) (by kernel_rfl) ?_ ?_
                      · refine ⟨.inl ⟨rfl, true, .none rfl, (fun gg b h => by cases h), fun h w => optUndef h, fun zβ za zw zc => ?_⟩, ?_⟩
                        · exact wp_move rfl (zc.kn.ev rfl) ⟨_, rfl, Below.refl _ _, optDef zβ rfl⟩
                        refine ⟨.inl ⟨rfl, true, .none rfl, (fun gg b h => by cases h), fun h w => optUndef h, fun zβ za zw zc => ?_⟩, ?_⟩
                        · exact wp_move rfl (zc.kn.ev rfl) ⟨_, rfl, Below.refl _ _, optDef zβ rfl⟩
                        refine ⟨.inl ⟨rfl, true, .none rfl, (fun gg b h => by cases h), fun h w => optUndef h, fun zβ za zw zc => ?_⟩, ?_⟩
                        · exact wp_move rfl (zc.kn.ev rfl) ⟨_, rfl, Below.refl _ _, optDef zβ rfl⟩
                        refine ⟨.inl ⟨rfl, true, .none rfl, (fun gg b h => by cases h), fun h w => optUndef h, fun zβ za zw zc => ?_⟩, ?_⟩
                        · exact wp_move rfl (zc.kn.ev rfl) ⟨_, rfl, Below.refl _ _, optDef zβ rfl⟩
                        refine ⟨.inl ⟨rfl, true, .none rfl, (fun gg b h => by cases h), fun h w => optUndef h, fun zβ za zw zc => ?_⟩, ?_⟩
                        · exact ix_27 (k := (2 + 4 * f + 2 * 1)) rfl ((show za.eval (.tmp 96) = za.tmps.getD 96 undef from rfl).trans (optSVal (zc.dep 2 96 (by kernel_rfl) (by decide)) rfl rfl)) rfl ((show za.eval (.tmp 97) = za.tmps.getD 97 undef from rfl).trans (optSVal (zc.dep 3 97 (by kernel_rfl) (by decide)) rfl rfl)) (by first | omega | (simp; omega)) ⟨_, rfl, Below.refl _ _, optDef zβ rfl⟩
                        refine ⟨.inl ⟨rfl, true, .none rfl, (fun gg b h => by cases h), fun h w => optUndef h, fun zβ za zw zc => ?_⟩, ?_⟩
                        · exact ld_3 rfl ((show za.eval (.tmp 98) = za.tmps.getD 98 undef from rfl).trans (optSVal (zc.dep 4 98 (by kernel_rfl) (by decide)) rfl rfl)) (bkeeps (zc.early (by kernel_rfl)) _ _ (IRow.cellAt ho51 (by omega) (by omega))) ⟨_, rfl, Below.refl _ _, optDef zβ rfl⟩
                        refine ⟨.inl ⟨rfl, true, .none rfl, (fun gg b h => by cases h), fun h w => optUndef h, fun zβ za zw zc => ?_⟩, ?_⟩
                        · exact wp_move rfl (zc.kn.ev rfl) ⟨_, rfl, Below.refl _ _, optDef zβ rfl⟩
                        refine ⟨.inl ⟨rfl, true, .none rfl, (fun gg b h => by cases h), fun h w => optUndef h, fun zβ za zw zc => ?_⟩, ?_⟩
                        · exact wp_move rfl (zc.kn.ev rfl) ⟨_, rfl, Below.refl _ _, optDef zβ rfl⟩
                        refine ⟨.inl ⟨rfl, true, .none rfl, (fun gg b h => by cases h), fun h w => optUndef h, fun zβ za zw zc => ?_⟩, ?_⟩
                        · exact ix_23 (k := i) rfl ((show za.eval (.tmp 100) = za.tmps.getD 100 undef from rfl).trans (optSVal (zc.dep 6 100 (by kernel_rfl) (by decide)) rfl rfl)) (ha20 i (by first | omega | (simp; omega))) ((show za.eval (.tmp 101) = za.tmps.getD 101 undef from rfl).trans (optSVal (zc.dep 7 101 (by kernel_rfl) (by decide)) rfl rfl)) (by first | omega | (simp; omega)) ⟨_, rfl, Below.refl _ _, optDef zβ rfl⟩
                        refine ⟨.inl ⟨rfl, true, .none rfl, (fun gg b h => by cases h), fun h w => optUndef h, fun zβ za zw zc => ?_⟩, ?_⟩
                        · exact fld_34_2 rfl ((show za.eval (.tmp 102) = za.tmps.getD 102 undef from rfl).trans (optSVal (zc.dep 8 102 (by kernel_rfl) (by decide)) rfl rfl)) ⟨_, rfl, Below.refl _ _, optDef zβ rfl⟩
                        refine ⟨.inl ⟨rfl, true, .none rfl, (fun gg b h => by cases h), fun h w => optUndef h, fun zβ za zw zc => ?_⟩, ?_⟩
                        · exact ld_32 rfl ((show za.eval (.tmp 103) = za.tmps.getD 103 undef from rfl).trans (optSVal (zc.dep 9 103 (by kernel_rfl) (by decide)) rfl rfl)) (bkeeps (bstep hb52 (zc.early (by kernel_rfl))) _ _ (hc21 i (by first | omega | (simp; omega))).2.2.2.1) (bkeeps (bstep hb52 (zc.early (by kernel_rfl))) _ _ (hc21 i (by first | omega | (simp; omega))).2.2.2.2.1) ⟨_, rfl, Below.refl _ _, optDef zβ rfl⟩
                        refine ⟨.inl ⟨rfl, true, .none rfl, (fun gg b h => by cases h), fun h w => optUndef h, fun zβ za zw zc => ?_⟩, ?_⟩
                        · exact wp_move rfl (zc.kn.ev rfl) ⟨_, rfl, Below.refl _ _, optDef zβ rfl⟩
                        refine ⟨.inl ⟨rfl, true, .none rfl, (fun gg b h => by cases h), fun h w => optUndef h, fun zβ za zw zc => ?_⟩, ?_⟩
                        · exact wp_call (by kernel_rfl) rfl (hv2 ((show za.eval (.tmp 104) = za.tmps.getD 104 undef from rfl).trans (optSVal (zc.dep 10 104 (by kernel_rfl) (by decide)) rfl rfl)) ((show za.eval (.tmp 105) = za.tmps.getD 105 undef from rfl).trans (optSVal (zc.dep 11 105 (by kernel_rfl) (by decide)) rfl rfl))) (often_any f (by omega) ((lget l i).r) _ _ (hpr hil) (IsT.below (bstep hb52 (zc.early (by kernel_rfl))) (InT.isT (hc21 i (by first | omega | (simp; omega))).2.2.2.2.2.2))) (fun v w' h => ⟨v, rfl, h.2, optDef zβ h.1⟩)
                        refine ⟨.inl ⟨rfl, true, .none rfl, (fun gg b h => by cases h), fun h w => optUndef h, fun zβ za zw zc => ?_⟩, ?_⟩
                        · exact addb_3 rfl ((show za.eval (.tmp 99) = za.tmps.getD 99 undef from rfl).trans (optSVal (zc.dep 5 99 (by kernel_rfl) (by decide)) rfl rfl)) ((show za.eval (.tmp 106) = za.tmps.getD 106 undef from rfl).trans (optSVal (zc.dep 12 106 (by kernel_rfl) (by decide)) rfl rfl)) (wrap_eq rfl (by have z := hL0 (2 + 4 * f + 2 * 1); omega) (by have z := hL1 (2 + 4 * f + 2 * 1) (by unfold evn; omega); have z2 := T.often_le (lget l i).r f; have z3 := hpr hil; omega)) ⟨_, rfl, Below.refl _ _, optDef zβ rfl⟩
                        refine ⟨.inl ⟨rfl, true, .none rfl, (fun gg b h => by cases h), fun h w => optUndef h, fun zβ za zw zc => ?_⟩, ?_⟩
                        · exact ix_27 (k := (2 + 4 * f + 2 * 1)) rfl ((show za.eval (.tmp 94) = za.tmps.getD 94 undef from rfl).trans (optSVal (zc.dep 0 94 (by kernel_rfl) (by decide)) rfl rfl)) rfl ((show za.eval (.tmp 95) = za.tmps.getD 95 undef from rfl).trans (optSVal (zc.dep 1 95 (by kernel_rfl) (by decide)) rfl rfl)) (by first | omega | (simp; omega)) ⟨_, rfl, Below.refl _ _, optDef zβ rfl⟩
                        refine ⟨.inr ⟨rfl, rfl, fun za zw zc => ?_⟩, ?_⟩
                        · have zm := ho51.below zc.below
                          exact st_3 rfl ((show za.eval (.tmp 108) = za.tmps.getD 108 undef from rfl).trans (optSVal (zc.dep 14 108 (by kernel_rfl) (by decide)) rfl rfl)) ((show za.eval (.tmp 107) = za.tmps.getD 107 undef from rfl).trans (optSVal (zc.dep 13 107 (by kernel_rfl) (by decide)) rfl rfl)) zm.blk (IRow.size zm (by omega)) (fun v => ⟨v, rfl, IRow.setAt zm _ (by omega) (by omega), .ofUpd (Upd.at_ _ _ _ _) rfl⟩)
                        exact trivial
                      · intro za w54 zh hG55 hc56 zu
                        have hb57 := chg_below hb52 hc56 (fun b hb => (by (try dsimp only at *); omega))
                        clear zu
                        refine (show WE _ [(0, .int .i64 (((n : Nat) : Int))), (1, .slice a l.length c), (4, .slice none 0 0), (5, .slice ((some ⟨ob, 0, none⟩)) ((2 + 4 * n)) ((2 + 4 * n))), (6, .int .i64 (((i : Nat) : Int))), (7, .int .i64 1), (8, .int .i64 (((f : Nat) : Int))), (9, .int .i64 ((((2 + 4 * f + 2 * 1) : Nat) : Int))), (15, .bool (((decide ((((n : Nat) : Int) : Int) < (0 : Int))) || (decide ((96 : Int) < (((n : Nat) : Int) : Int)))))), (23, .bool ((decide ((((i : Nat) : Int) : Int) < (((l.length : Nat) : Int) : Int))))), (30, .bool ((lget l i).neg)), (39, .bool ((decide ((((f : Nat) : Int) : Int) < (((n : Nat) : Int) : Int))))), (54, .bool ((!(lget l i).l.isTrue))), (93, .bool ((!(lget l i).r.isTrue)))] w54 _ .normal from ?_) za (zh.sub ⟨rfl, rfl, rfl, rfl, rfl, rfl, rfl, rfl, rfl, rfl, rfl, rfl, rfl, rfl, trivial⟩)
                        refine WE.next ?_
                        have hSlt : ∀ b, (fun b => b = ob) b → b < w54.heap.size := fun b e => e ▸ hG55.lt
                        refine WC.tail1 (S := ((fun b => b = ob))) [(true, .val (.slice ((some ⟨ob, 0, none⟩)) ((2 + 4 * n)) ((2 + 4 * n)))), (true, .val (.int .i64 ((((2 + 4 * f + 2 * 1) : Nat) : Int)))), (true, .val (.int .i64 (((((2 + 4 * f + 2 * 1) + 1) : Nat) : Int)))), (true, .val (.slice ((some ⟨ob, 0, none⟩)) ((2 + 4 * n)) ((2 + 4 * n)))), (true, .val (.int .i64 ((((2 + 4 * f + 2 * 1) : Nat) : Int)))), (true, .val (.int .i64 (((((2 + 4 * f + 2 * 1) + 1) : Nat) : Int)))), (true, .val (.pointer (some ⟨ob, 0 + (((2 + 4 * f + 2 * 1) + 1)), none⟩))), (true, .val (.int .i64 (((gset ((refS 1 f (lget l i).l (rG (lget l i) (gset (outG n l i) 1 (outG n l i 1 + 1)) f))) ((2 + 4 * f + 2 * 1)) ((((refS 1 f (lget l i).l (rG (lget l i) (gset (outG n l i) 1 (outG n l i 1 + 1)) f)) ((2 + 4 * f + 2 * 1))) + ((((lget l i).r.often f) : Nat) : Int)))) (((2 + 4 * f + 2 * 1) + 1)))))), (true, .val (.slice a l.length c)), (true, .val (.int .i64 (((i : Nat) : Int)))), (true, .val (.pointer (some ⟨b14, o15 + i * 5, none⟩))), (true, .val (.pointer (some ⟨b14, o15 + i * 5 + 3, none⟩))), (true, .val (.agg #[.int .i64 ((lget l i).r.f), .slice ((A18 i)) ((lget l i).r.args.length) ((C19 i))])), (true, .val (.int .i64 (((f : Nat) : Int)))), (true, .val (.int .i64 (((((lget l i).r.deep f 1) : Nat) : Int)))), (true, .val (.int .i64 ((max (((gset ((refS 1 f (lget l i).l (rG (lget l i) (gset (outG n l i) 1 (outG n l i 1 + 1)) f))) ((2 + 4 * f + 2 * 1)) ((((refS 1 f (lget l i).l (rG (lget l i) (gset (outG n l i) 1 (outG n l i 1 + 1)) f)) ((2 + 4 * f + 2 * 1))) + ((((lget l i).r.often f) : Nat) : Int)))) (((2 + 4 * f + 2 * 1) + 1)))) (((((lget l i).r.deep f 1) : Nat) : Int)))))), (true, .val (.pointer (some ⟨ob, 0 + (((2 + 4 * f + 2 * 1) + 1)), none⟩))), (true, .val undef)] [(0, .int .i64 (((n : Nat) : Int))), (1, .slice a l.length c), (4, .slice none 0 0), (5, .slice ((some ⟨ob, 0, none⟩)) ((2 + 4 * n)) ((2 + 4 * n))), (6, .int .i64 (((i : Nat) : Int))), (7, .int .i64 1), (8, .int .i64 (((f : Nat) : Int))), (9, .int .i64 ((((2 + 4 * f + 2 * 1) : Nat) : Int))), (15, .bool (((decide ((((n : Nat) : Int) : Int) < (0 : Int))) || (decide ((96 : Int) < (((n : Nat) : Int) : Int)))))), (23, .bool ((decide ((((i : Nat) : Int) : Int) < (((l.length : Nat) : Int) : Int))))), (30, .bool ((lget l i).neg)), (39, .bool ((decide ((((f : Nat) : Int) : Int) < (((n : Nat) : Int) : Int))))), (54, .bool ((!(lget l i).l.isTrue))), (93, .bool ((!(lget l i).r.isTrue)))] 17 (fun wz => IRow wz 3 ob (2 + 4 * n) (gset ((gset ((refS 1 f (lget l i).l (rG (lget l i) (gset (outG n l i) 1 (outG n l i 1 + 1)) f))) ((2 + 4 * f + 2 * 1)) ((((refS 1 f (lget l i).l (rG (lget l i) (gset (outG n l i) 1 (outG n l i 1 + 1)) f)) ((2 + 4 * f + 2 * 1))) + ((((lget l i).r.often f) : Nat) : Int))))) (((2 + 4 * f + 2 * 1) + 1)) ((max (((gset ((refS 1 f (lget l i).l (rG (lget l i) (gset (outG n l i) 1 (outG n l i 1 + 1)) f))) ((2 + 4 * f + 2 * 1)) ((((refS 1 f (lget l i).l (rG (lget l i) (gset (outG n l i) 1 (outG n l i 1 + 1)) f)) ((2 + 4 * f + 2 * 1))) + ((((lget l i).r.often f) : Nat) : Int)))) (((2 + 4 * f + 2 * 1) + 1)))) (((((lget l i).r.deep f 1) : Nat) : Int)))))) (fun w w' hb h => h.below hb) ⟨rfl, rfl, rfl, rfl, rfl, rfl, rfl, rfl, rfl, rfl, rfl, rfl, rfl, rfl, trivial⟩ (by kernel_rfl) (by kernel_rfl) (by kernel_rfl) (by kernel_rfl) ?_ ?_
                        · refine ⟨.inl ⟨rfl, true, .none rfl, (fun gg b h => by cases h), fun h w => optUndef h, fun zβ za zw zc => ?_⟩, ?_⟩
                          · exact wp_move rfl (zc.kn.ev rfl) ⟨_, rfl, Below.refl _ _, optDef zβ rfl⟩
                          refine ⟨.inl ⟨rfl, true, .none rfl, (fun gg b h => by cases h), fun h w => optUndef h, fun zβ za zw zc => ?_⟩, ?_⟩
                          · exact wp_move rfl (zc.kn.ev rfl) ⟨_, rfl, Below.refl _ _, optDef zβ rfl⟩
                          refine ⟨.inl ⟨rfl, true, .none rfl, (fun gg b h => by cases h), fun h w => optUndef h, fun zβ za zw zc => ?_⟩, ?_⟩
                          · exact addb_3 rfl ((show za.eval (.tmp 110) = za.tmps.getD 110 undef from rfl).trans (optSVal (zc.dep 1 110 (by kernel_rfl) (by decide)) rfl rfl)) (zc.kn.ev rfl) (wrap_eq (by omega) (by omega) (by omega)) ⟨_, rfl, Below.refl _ _, optDef zβ rfl⟩
                          refine ⟨.inl ⟨rfl, true, .none rfl, (fun gg b h => by cases h), fun h w => optUndef h, fun zβ za zw zc => ?_⟩, ?_⟩
                          · exact wp_move rfl (zc.kn.ev rfl) ⟨_, rfl, Below.refl _ _, optDef zβ rfl⟩
                          refine ⟨.inl ⟨rfl, true, .none rfl, (fun gg b h => by cases h), fun h w => optUndef h, fun zβ za zw zc => ?_⟩, ?_⟩
                          · exact wp_move rfl (zc.kn.ev rfl) ⟨_, rfl, Below.refl _ _, optDef zβ rfl⟩
                          refine ⟨.inl ⟨rfl, true, .none rfl, (fun gg b h => by cases h), fun h w => optUndef h, fun zβ za zw zc => ?_⟩, ?_⟩
                          · exact addb_3 rfl ((show za.eval (.tmp 113) = za.tmps.getD 113 undef from rfl).trans (optSVal (zc.dep 4 113 (by kernel_rfl) (by decide)) rfl rfl)) (zc.kn.ev rfl) (wrap_eq (by omega) (by omega) (by omega)) ⟨_, rfl, Below.refl _ _, optDef zβ rfl⟩
                          refine ⟨.inl ⟨rfl, true, .none rfl, (fun gg b h => by cases h), fun h w => optUndef h, fun zβ za zw zc => ?_⟩, ?_⟩
                          · exact ix_27 (k := ((2 + 4 * f + 2 * 1) + 1)) rfl ((show za.eval (.tmp 112) = za.tmps.getD 112 undef from rfl).trans (optSVal (zc.dep 3 112 (by kernel_rfl) (by decide)) rfl rfl)) rfl ((show za.eval (.tmp 114) = za.tmps.getD 114 undef from rfl).trans (optSVal (zc.dep 5 114 (by kernel_rfl) (by decide)) rfl rfl)) (by first | omega | (simp; omega)) ⟨_, rfl, Below.refl _ _, optDef zβ rfl⟩
                          refine ⟨.inl ⟨rfl, true, .none rfl, (fun gg b h => by cases h), fun h w => optUndef h, fun zβ za zw zc => ?_⟩, ?_⟩
                          · exact ld_3 rfl ((show za.eval (.tmp 115) = za.tmps.getD 115 undef from rfl).trans (optSVal (zc.dep 6 115 (by kernel_rfl) (by decide)) rfl rfl)) (bkeeps (zc.early (by kernel_rfl)) _ _ (IRow.cellAt hG55 (by omega) (by omega))) ⟨_, rfl, Below.refl _ _, optDef zβ rfl⟩
                          refine ⟨.inl ⟨rfl, true, .none rfl, (fun gg b h => by cases h), fun h w => optUndef h, fun zβ za zw zc => ?_⟩, ?_⟩
                          · exact wp_move rfl (zc.kn.ev rfl) ⟨_, rfl, Below.refl _ _, optDef zβ rfl⟩
                          refine ⟨.inl ⟨rfl, true, .none rfl, (fun gg b h => by cases h), fun h w => optUndef h, fun zβ za zw zc => ?_⟩, ?_⟩
                          · exact wp_move rfl (zc.kn.ev rfl) ⟨_, rfl, Below.refl _ _, optDef zβ rfl⟩
                          refine ⟨.inl ⟨rfl, true, .none rfl, (fun gg b h => by cases h), fun h w => optUndef h, fun zβ za zw zc => ?_⟩, ?_⟩
                          · exact ix_23 (k := i) rfl ((show za.eval (.tmp 117) = za.tmps.getD 117 undef from rfl).trans (optSVal (zc.dep 8 117 (by kernel_rfl) (by decide)) rfl rfl)) (ha20 i (by first | omega | (simp; omega))) ((show za.eval (.tmp 118) = za.tmps.getD 118 undef from rfl).trans (optSVal (zc.dep 9 118 (by kernel_rfl) (by decide)) rfl rfl)) (by first | omega | (simp; omega)) ⟨_, rfl, Below.refl _ _, optDef zβ rfl⟩
                          refine ⟨.inl ⟨rfl, true, .none rfl, (fun gg b h => by cases h), fun h w => optUndef h, fun zβ za zw zc => ?_⟩, ?_⟩
                          · exact fld_34_2 rfl ((show za.eval (.tmp 119) = za.tmps.getD 119 undef from rfl).trans (optSVal (zc.dep 10 119 (by kernel_rfl) (by decide)) rfl rfl)) ⟨_, rfl, Below.refl _ _, optDef zβ rfl⟩
                          refine ⟨.inl ⟨rfl, true, .none rfl, (fun gg b h => by cases h), fun h w => optUndef h, fun zβ za zw zc => ?_⟩, ?_⟩
                          · exact ld_32 rfl ((show za.eval (.tmp 120) = za.tmps.getD 120 undef from rfl).trans (optSVal (zc.dep 11 120 (by kernel_rfl) (by decide)) rfl rfl)) (bkeeps (bstep hb57 (zc.early (by kernel_rfl))) _ _ (hc21 i (by first | omega | (simp; omega))).2.2.2.1) (bkeeps (bstep hb57 (zc.early (by kernel_rfl))) _ _ (hc21 i (by first | omega | (simp; omega))).2.2.2.2.1) ⟨_, rfl, Below.refl _ _, optDef zβ rfl⟩
                          refine ⟨.inl ⟨rfl, true, .none rfl, (fun gg b h => by cases h), fun h w => optUndef h, fun zβ za zw zc => ?_⟩, ?_⟩
                          · exact wp_move rfl (zc.kn.ev rfl) ⟨_, rfl, Below.refl _ _, optDef zβ rfl⟩
                          refine ⟨.inl ⟨rfl, true, .none rfl, (fun gg b h => by cases h), fun h w => optUndef h, fun zβ za zw zc => ?_⟩, ?_⟩
                          · exact wp_call (by kernel_rfl) rfl (hv3 ((show za.eval (.tmp 121) = za.tmps.getD 121 undef from rfl).trans (optSVal (zc.dep 12 121 (by kernel_rfl) (by decide)) rfl rfl)) ((show za.eval (.tmp 122) = za.tmps.getD 122 undef from rfl).trans (optSVal (zc.dep 13 122 (by kernel_rfl) (by decide)) rfl rfl)) (zc.kn.ev rfl)) (deep_any f (by omega) ((lget l i).r) 1 _ _ (by have z := (hpr hil); omega) (hpr hil) (IsT.below (bstep hb57 (zc.early (by kernel_rfl))) (InT.isT (hc21 i (by first | omega | (simp; omega))).2.2.2.2.2.2))) (fun v w' h => ⟨v, rfl, h.2, optDef zβ h.1⟩)
                          refine ⟨.inl ⟨rfl, true, .none rfl, (fun gg b h => by cases h), fun h w => optUndef h, fun zβ za zw zc => ?_⟩, ?_⟩
                          · exact wp_max3 rfl ((show za.eval (.tmp 116) = za.tmps.getD 116 undef from rfl).trans (optSVal (zc.dep 7 116 (by kernel_rfl) (by decide)) rfl rfl)) ((show za.eval (.tmp 123) = za.tmps.getD 123 undef from rfl).trans (optSVal (zc.dep 14 123 (by kernel_rfl) (by decide)) rfl rfl)) rfl ⟨_, rfl, Below.refl _ _, optDef zβ rfl⟩
                          refine ⟨.inl ⟨rfl, true, .none rfl, (fun gg b h => by cases h), fun h w => optUndef h, fun zβ za zw zc => ?_⟩, ?_⟩
                          · exact ix_27 (k := ((2 + 4 * f + 2 * 1) + 1)) rfl ((show za.eval (.tmp 109) = za.tmps.getD 109 undef from rfl).trans (optSVal (zc.dep 0 109 (by kernel_rfl) (by decide)) rfl rfl)) rfl ((show za.eval (.tmp 111) = za.tmps.getD 111 undef from rfl).trans (optSVal (zc.dep 2 111 (by kernel_rfl) (by decide)) rfl rfl)) (by first | omega | (simp; omega)) ⟨_, rfl, Below.refl _ _, optDef zβ rfl⟩
                          refine ⟨.inr ⟨rfl, rfl, fun za zw zc => ?_⟩, ?_⟩
                          · have zm := hG55.below zc.below
                            exact st_3 rfl ((show za.eval (.tmp 125) = za.tmps.getD 125 undef from rfl).trans (optSVal (zc.dep 16 125 (by kernel_rfl) (by decide)) rfl rfl)) ((show za.eval (.tmp 124) = za.tmps.getD 124 undef from rfl).trans (optSVal (zc.dep 15 124 (by kernel_rfl) (by decide)) rfl rfl)) zm.blk (IRow.size zm (by omega)) (fun v => ⟨v, rfl, IRow.setAt zm _ (by omega) (by omega), .ofUpd (Upd.at_ _ _ _ _) rfl⟩)
                          exact trivial
                        · intro za w59 zh hG60 hc61 zu
                          have hb62 := chg_below hb57 hc61 (fun b hb => (by (try dsimp only at *); omega))
                          have hM63 := IRow.congr hG60 (refS_not (way := 1) (f := f) htR).symm
                          clear zu
                          refine (show WE _ [(0, .int .i64 (((n : Nat) : Int))), (1, .slice a l.length c), (4, .slice none 0 0), (5, .slice ((some ⟨ob, 0, none⟩)) ((2 + 4 * n)) ((2 + 4 * n))), (6, .int .i64 (((i : Nat) : Int))), (7, .int .i64 1), (8, .int .i64 (((f : Nat) : Int))), (9, .int .i64 ((((2 + 4 * f + 2 * 1) : Nat) : Int))), (15, .bool (((decide ((((n : Nat) : Int) : Int) < (0 : Int))) || (decide ((96 : Int) < (((n : Nat) : Int) : Int)))))), (23, .bool ((decide ((((i : Nat) : Int) : Int) < (((l.length : Nat) : Int) : Int))))), (30, .bool ((lget l i).neg)), (39, .bool ((decide ((((f : Nat) : Int) : Int) < (((n : Nat) : Int) : Int))))), (54, .bool ((!(lget l i).l.isTrue))), (93, .bool ((!(lget l i).r.isTrue)))] w59 _ .normal from ?_) za (zh.sub ⟨rfl, rfl, rfl, rfl, rfl, rfl, rfl, rfl, rfl, rfl, rfl, rfl, rfl, rfl, trivial⟩)
                          refine WE.blockNormal ?_
                          refine WE.next ?_
                          refine WC.region ?_
                          refine WL.val (.int .i64 (((f : Nat) : Int))) rfl rfl rfl (fun za zC zh zk => wp_move rfl (zh.ev rfl) zk) ?_
                          refine WL.val (.int .i64 ((((f + 1) : Nat) : Int))) rfl rfl rfl (fun za zC zh zk => addb_3 rfl (zh.ev rfl) (zh.ev rfl) (wrap_eq (by omega) (by omega) (by omega)) zk) ?_
                          refine WL.val (.int .i64 ((((f + 1) : Nat) : Int))) rfl rfl rfl (fun za zC zh zk => wp_assign rfl (zh.ev rfl) zk) ?_
                          refine WL.nil (WE.sub (K' := [(0, .int .i64 (((n : Nat) : Int))), (1, .slice a l.length c), (4, .slice none 0 0), (5, .slice ((some ⟨ob, 0, none⟩)) ((2 + 4 * n)) ((2 + 4 * n))), (6, .int .i64 (((i : Nat) : Int))), (7, .int .i64 1), (8, .int .i64 ((((f + 1) : Nat) : Int))), (9, .int .i64 ((((2 + 4 * f + 2 * 1) : Nat) : Int))), (15, .bool (((decide ((((n : Nat) : Int) : Int) < (0 : Int))) || (decide ((96 : Int) < (((n : Nat) : Int) : Int)))))), (23, .bool ((decide ((((i : Nat) : Int) : Int) < (((l.length : Nat) : Int) : Int))))), (30, .bool ((lget l i).neg)), (39, .bool ((decide ((((f : Nat) : Int) : Int) < (((n : Nat) : Int) : Int))))), (54, .bool ((!(lget l i).l.isTrue))), (93, .bool ((!(lget l i).r.isTrue)))]) ⟨rfl, rfl, rfl, rfl, rfl, rfl, rfl, rfl, rfl, rfl, rfl, rfl, rfl, rfl, trivial⟩ ?_)
                          refine WE.round (f + 1) ⟨rfl, rfl, rfl, rfl, rfl, rfl, rfl, rfl, rfl, rfl, trivial⟩ ?_ ?_
                          · exact ⟨by omega, hb62, (IRow.congr hM63 (by rw [rG_succ, ← hway]))⟩
                          · omega
                    · have h50 : ¬ (¬ ((lget l i).r.isTrue = true)) := by simpa using h50
                      have htR : (lget l i).r.isTrue = true := by simpa using h50
                      have ho65 := hM47.below hq48
                      have hM64 := IRow.congr ho65 (refS_true (t := (lget l i).r) (way := 1) (f := f) htR).symm
                      refine WC.skip ?_
                      refine WE.blockNormal ?_
                      refine WE.next ?_
                      refine WC.region ?_
                      refine WL.val (.int .i64 (((f : Nat) : Int))) rfl rfl rfl (fun za zC zh zk => wp_move rfl (zh.ev rfl) zk) ?_
                      refine WL.val (.int .i64 ((((f + 1) : Nat) : Int))) rfl rfl rfl (fun za zC zh zk => addb_3 rfl (zh.ev rfl) (zh.ev rfl) (wrap_eq (by omega) (by omega) (by omega)) zk) ?_
                      refine WL.val (.int .i64 ((((f + 1) : Nat) : Int))) rfl rfl rfl (fun za zC zh zk => wp_assign rfl (zh.ev rfl) zk) ?_
                      refine WL.nil (WE.sub (K' := [(0, .int .i64 (((n : Nat) : Int))), (1, .slice a l.length c), (4, .slice none 0 0), (5, .slice ((some ⟨ob, 0, none⟩)) ((2 + 4 * n)) ((2 + 4 * n))), (6, .int .i64 (((i : Nat) : Int))), (7, .int .i64 1), (8, .int .i64 ((((f + 1) : Nat) : Int))), (9, .int .i64 ((((2 + 4 * f + 2 * 1) : Nat) : Int))), (15, .bool (((decide ((((n : Nat) : Int) : Int) < (0 : Int))) || (decide ((96 : Int) < (((n : Nat) : Int) : Int)))))), (23, .bool ((decide ((((i : Nat) : Int) : Int) < (((l.length : Nat) : Int) : Int))))), (30, .bool ((lget l i).neg)), (39, .bool ((decide ((((f : Nat) : Int) : Int) < (((n : Nat) : Int) : Int))))), (54, .bool ((!(lget l i).l.isTrue))), (93, .bool ((!(lget l i).r.isTrue)))]) ⟨rfl, rfl, rfl, rfl, rfl, rfl, rfl, rfl, rfl, rfl, rfl, rfl, rfl, rfl, trivial⟩ ?_)
                      refine WE.round (f + 1) ⟨rfl, rfl, rfl, rfl, rfl, rfl, rfl, rfl, rfl, rfl, trivial⟩ ?_ ?_
                      · have hb66 : Below w.heap.size w w49 := (bstep hb46 hq48)
                        exact ⟨by omega, hb66, (IRow.congr hM64 (by rw [rG_succ, ← hway]))⟩
                      · omega
              · have h34 : ¬ (¬ ((lget l i).l.isTrue = true)) := by simpa using h34
                have htL : (lget l i).l.isTrue = true := by simpa using h34
                have hL0 : ∀ k, 0 ≤ (refS 1 f (lget l i).l (rG (lget l i) (gset (outG n l i) 1 (outG n l i 1 + 1)) f)) k := fun k => refS_nonneg hf0 k
                have hL1 : ∀ k, evn k → (refS 1 f (lget l i).l (rG (lget l i) (gset (outG n l i) 1 (outG n l i 1 + 1)) f)) k ≤ i * 17179869184 + 1 + 8589934592 + 4294967296 := fun k hk => refS_ev hf0 hf1 (hpl hil) k hk
                have ho68 := ho30.below hq32
                have hM67 := IRow.congr ho68 (refS_true (way := 1) (f := f) htL).symm
                refine WC.skip ?_
                refine WE.next ?_
                refine WC.seq ?_
                refine WC.region ?_
                refine WL.val (.slice a l.length c) rfl rfl rfl (fun za zC zh zk => wp_move rfl (zh.ev rfl) zk) ?_
                refine WL.val (.int .i64 (((i : Nat) : Int))) rfl rfl rfl (fun za zC zh zk => wp_move rfl (zh.ev rfl) zk) ?_
                refine WL.val (.pointer (some ⟨b14, o15 + i * 5, none⟩)) rfl rfl rfl (fun za zC zh zk => ix_23 (k := i) rfl (zh.ev rfl) (ha20 i (by first | omega | (simp; omega))) (zh.ev rfl) (by first | omega | (simp; omega)) zk) ?_
                refine WL.val (.pointer (some ⟨b14, o15 + i * 5 + 3, none⟩)) rfl rfl rfl (fun za zC zh zk => fld_34_2 rfl (zh.ev rfl) zk) ?_
                have hb69 : Below w.heap.size w w33 := (bstep hb29 hq32)
                refine WL.val (.agg #[.int .i64 ((lget l i).r.f), .slice ((A18 i)) ((lget l i).r.args.length) ((C19 i))]) rfl rfl rfl (fun za zC zh zk => ld_32 rfl (zh.ev rfl) (bkeeps hb69 _ _ (hc21 i (by first | omega | (simp; omega))).2.2.2.1) (bkeeps hb69 _ _ (hc21 i (by first | omega | (simp; omega))).2.2.2.2.1) zk) ?_
                refine WL.call rfl rfl rfl (fun za zh zC => wp_call (by kernel_rfl) rfl (hv1 (zh.ev rfl))) (rtrue_any ((lget l i).r) _ _ (IsT.below hb69 (InT.isT (hc21 i (by first | omega | (simp; omega))).2.2.2.2.2.2))) ?_
                rintro _ w71 ⟨rfl, hq70⟩
                refine WL.val (.bool ((!(lget l i).r.isTrue))) rfl rfl rfl (fun za zC zh zk => wp_not rfl (zh.ev rfl) zk) ?_
                refine WL.nil (WE.sub (K' := [(0, .int .i64 (((n : Nat) : Int))), (1, .slice a l.length c), (4, .slice none 0 0), (5, .slice ((some ⟨ob, 0, none⟩)) ((2 + 4 * n)) ((2 + 4 * n))), (6, .int .i64 (((i : Nat) : Int))), (7, .int .i64 1), (8, .int .i64 (((f : Nat) : Int))), (9, .int .i64 ((((2 + 4 * f + 2 * 1) : Nat) : Int))), (15, .bool (((decide ((((n : Nat) : Int) : Int) < (0 : Int))) || (decide ((96 : Int) < (((n : Nat) : Int) : Int)))))), (23, .bool ((decide ((((i : Nat) : Int) : Int) < (((l.length : Nat) : Int) : Int))))), (30, .bool ((lget l i).neg)), (39, .bool ((decide ((((f : Nat) : Int) : Int) < (((n : Nat) : Int) : Int))))), (54, .bool ((!(lget l i).l.isTrue))), (93, .bool ((!(lget l i).r.isTrue)))]) ⟨rfl, rfl, rfl, rfl, rfl, rfl, rfl, rfl, rfl, rfl, rfl, rfl, rfl, rfl, trivial⟩ ?_)
                refine WE.next ?_
                refine WC.cond rfl (fun h72 => ?_) (fun h72 => ?_)
                · have h72 : ¬ ((lget l i).r.isTrue = true) := by simpa using h72
                  have htR : ¬ (lget l i).r.isTrue = true := by simpa using h72
                  refine WC.seq ?_
                  have ho73 := hM67.below hq70
                  have hb74 : Below w.heap.size w w71 := (bstep hb69 hq70)
                  have hSlt : ∀ b, (fun b => b = ob) b → b < w71.heap.size := fun b e => e ▸ ho73.lt
                  refine WC.tail1 (S := ((fun b => b = ob))) [(true, .val (.slice ((some ⟨ob, 0, none⟩)) ((2 + 4 * n)) ((2 + 4 * n)))), (true, .val (.int .i64 ((((2 + 4 * f + 2 * 1) : Nat) : Int)))), (true, .val (.slice ((some ⟨ob, 0, none⟩)) ((2 + 4 * n)) ((2 + 4 * n)))), (true, .val (.int .i64 ((((2 + 4 * f + 2 * 1) : Nat) : Int)))), (true, .val (.pointer (some ⟨ob, 0 + ((2 + 4 * f + 2 * 1)), none⟩))), (true, .val (.int .i64 (((refS 1 f (lget l i).l (rG (lget l i) (gset (outG n l i) 1 (outG n l i 1 + 1)) f)) ((2 + 4 * f + 2 * 1)))))), (true, .val (.slice a l.length c)), (true, .val (.int .i64 (((i : Nat) : Int)))), (true, .val (.pointer (some ⟨b14, o15 + i * 5, none⟩))), (true, .val (.pointer (some ⟨b14, o15 + i * 5 + 3, none⟩))), (true, .val (.agg #[.int .i64 ((lget l i).r.f), .slice ((A18 i)) ((lget l i).r.args.length) ((C19 i))])), (true, .val (.int .i64 (((f : Nat) : Int)))), (true, .val (.int .i64 (((((lget l i).r.often f) : Nat) : Int)))), (true, .val (.int .i64 ((((refS 1 f (lget l i).l (rG (lget l i) (gset (outG n l i) 1 (outG n l i 1 + 1)) f)) ((2 + 4 * f + 2 * 1))) + ((((lget l i).r.often f) : Nat) : Int))))), (true, .val (.pointer (some ⟨ob, 0 + ((2 + 4 * f + 2 * 1)), none⟩))), (true, .val undef)] [(0, .int .i64 (((n : Nat) : Int))), (1, .slice a l.length c), (4, .slice none 0 0), (5, .slice ((some ⟨ob, 0, none⟩)) ((2 + 4 * n)) ((2 + 4 * n))), (6, .int .i64 (((i : Nat) : Int))), (7, .int .i64 1), (8, .int .i64 (((f : Nat) : Int))), (9, .int .i64 ((((2 + 4 * f + 2 * 1) : Nat) : Int))), (15, .bool (((decide ((((n : Nat) : Int) : Int) < (0 : Int))) || (decide ((96 : Int) < (((n : Nat) : Int) : Int)))))), (23, .bool ((decide ((((i : Nat) : Int) : Int) < (((l.length : Nat) : Int) : Int))))), (30, .bool ((lget l i).neg)), (39, .bool ((decide ((((f : Nat) : Int) : Int) < (((n : Nat) : Int) : Int))))), (54, .bool ((!(lget l i).l.isTrue))), (93, .bool ((!(lget l i).r.isTrue)))] 15 (fun wz => IRow wz 3 ob (2 + 4 * n) (gset ((refS 1 f (lget l i).l (rG (lget l i) (gset (outG n l i) 1 (outG n l i 1 + 1)) f))) ((2 + 4 * f + 2 * 1)) ((((refS 1 f (lget l i).l (rG (lget l i) (gset (outG n l i) 1 (outG n l i 1 + 1)) f)) ((2 + 4 * f + 2 * 1))) + ((((lget l i).r.often f) : Nat) : Int))))) (fun w w' hb h => h.below hb) ⟨rfl, rfl, rfl, rfl, rfl, rfl, rfl, rfl, rfl, rfl, rfl, rfl, rfl, rfl, trivial⟩ (by kernel_rfl) (by kernel_rfl) (by kernel_rfl) (by kernel_rfl) ?_ ?_
                  · refine ⟨.inl ⟨rfl, true, .none rfl, (fun gg b h => by cases h), fun h w => optUndef h, fun zβ za zw zc => ?_⟩, ?_⟩
                    · exact wp_move rfl (zc.kn.ev rfl) ⟨_, rfl, Below.refl _ _, optDef zβ rfl⟩
                    refine ⟨.inl ⟨rfl, true, .none rfl, (fun gg b h => by cases h), fun h w => optUndef h, fun zβ za zw zc => ?_⟩, ?_⟩
                    · exact wp_move rfl (zc.kn.ev rfl) ⟨_, rfl, Below.refl _ _, optDef zβ rfl⟩
                    refine ⟨.inl ⟨rfl, true, .none rfl, (fun gg b h => by cases h), fun h w => optUndef h, fun zβ za zw zc => ?_⟩, ?_⟩
                    · exact wp_move rfl (zc.kn.ev rfl) ⟨_, rfl, Below.refl _ _, optDef zβ rfl⟩
                    refine ⟨.inl ⟨rfl, true, .none rfl, (fun gg b h => by cases h), fun h w => optUndef h, fun zβ za zw zc => ?_⟩, ?_⟩
                    · exact wp_move rfl (zc.kn.ev rfl) ⟨_, rfl, Below.refl _ _, optDef zβ rfl⟩
                    refine ⟨.inl ⟨rfl, true, .none rfl, (fun gg b h => by cases h), fun h w => optUndef h, fun zβ za zw zc => ?_⟩, ?_⟩
                    · exact ix_27 (k := (2 + 4 * f + 2 * 1)) rfl ((show za.eval (.tmp 96) = za.tmps.getD 96 undef from rfl).trans (optSVal (zc.dep 2 96 (by kernel_rfl) (by decide)) rfl rfl)) rfl ((show za.eval (.tmp 97) = za.tmps.getD 97 undef from rfl).trans (optSVal (zc.dep 3 97 (by kernel_rfl) (by decide)) rfl rfl)) (by first | omega | (simp; omega)) ⟨_, rfl, Below.refl _ _, optDef zβ rfl⟩
                    refine ⟨.inl ⟨rfl, true, .none rfl, (fun gg b h => by cases h), fun h w => optUndef h, fun zβ za zw zc => ?_⟩, ?_⟩
                    · exact ld_3 rfl ((show za.eval (.tmp 98) = za.tmps.getD 98 undef from rfl).trans (optSVal (zc.dep 4 98 (by kernel_rfl) (by decide)) rfl rfl)) (bkeeps (zc.early (by kernel_rfl)) _ _ (IRow.cellAt ho73 (by omega) (by omega))) ⟨_, rfl, Below.refl _ _, optDef zβ rfl⟩
                    refine ⟨.inl ⟨rfl, true, .none rfl, (fun gg b h => by cases h), fun h w => optUndef h, fun zβ za zw zc => ?_⟩, ?_⟩
                    · exact wp_move rfl (zc.kn.ev rfl) ⟨_, rfl, Below.refl _ _, optDef zβ rfl⟩
                    refine ⟨.inl ⟨rfl, true, .none rfl, (fun gg b h => by cases h), fun h w => optUndef h, fun zβ za zw zc => ?_⟩, ?_⟩
                    · exact wp_move rfl (zc.kn.ev rfl) ⟨_, rfl, Below.refl _ _, optDef zβ rfl⟩
                    refine ⟨.inl ⟨rfl, true, .none rfl, (fun gg b h => by cases h), fun h w => optUndef h, fun zβ za zw zc => ?_⟩, ?_⟩
                    · exact ix_23 (k := i) rfl ((show za.eval (.tmp 100) = za.tmps.getD 100 undef from rfl).trans (optSVal (zc.dep 6 100 (by kernel_rfl) (by decide)) rfl rfl)) (ha20 i (by first | omega | (simp; omega))) ((show za.eval (.tmp 101) = za.tmps.getD 101 undef from rfl).trans (optSVal (zc.dep 7 101 (by kernel_rfl) (by decide)) rfl rfl)) (by first | omega | (simp; omega)) ⟨_, rfl, Below.refl _ _, optDef zβ rfl⟩
                    refine ⟨.inl ⟨rfl, true, .none rfl, (fun gg b h => by cases h), fun h w => optUndef h, fun zβ za zw zc => ?_⟩, ?_⟩
                    · exact fld_34_2 rfl ((show za.eval (.tmp 102) = za.tmps.getD 102 undef from rfl).trans (optSVal (zc.dep 8 102 (by kernel_rfl) (by decide)) rfl rfl)) ⟨_, rfl, Below.refl _ _, optDef zβ rfl⟩
                    refine ⟨.inl ⟨rfl, true, .none rfl, (fun gg b h => by cases h), fun h w => optUndef h, fun zβ za zw zc => ?_⟩, ?_⟩
                    · exact ld_32 rfl ((show za.eval (.tmp 103) = za.tmps.getD 103 undef from rfl).trans (optSVal (zc.dep 9 103 (by kernel_rfl) (by decide)) rfl rfl)) (bkeeps (bstep hb74 (zc.early (by kernel_rfl))) _ _ (hc21 i (by first | omega | (simp; omega))).2.2.2.1) (bkeeps (bstep hb74 (zc.early (by kernel_rfl))) _ _ (hc21 i (by first | omega | (simp; omega))).2.2.2.2.1) ⟨_, rfl, Below.refl _ _, optDef zβ rfl⟩
                    refine ⟨.inl ⟨rfl, true, .none rfl, (fun gg b h => by cases h), fun h w => optUndef h, fun zβ za zw zc => ?_⟩, ?_⟩
                    · exact wp_move rfl (zc.kn.ev rfl) ⟨_, rfl, Below.refl _ _, optDef zβ rfl⟩
                    refine ⟨.inl ⟨rfl, true, .none rfl, (fun gg b h => by cases h), fun h w => optUndef h, fun zβ za zw zc => ?_⟩, ?_⟩
                    · exact wp_call (by kernel_rfl) rfl (hv2 ((show za.eval (.tmp 104) = za.tmps.getD 104 undef from rfl).trans (optSVal (zc.dep 10 104 (by kernel_rfl) (by decide)) rfl rfl)) ((show za.eval (.tmp 105) = za.tmps.getD 105 undef from rfl).trans (optSVal (zc.dep 11 105 (by kernel_rfl) (by decide)) rfl rfl))) (often_any f (by omega) ((lget l i).r) _ _ (hpr hil) (IsT.below (bstep hb74 (zc.early (by kernel_rfl))) (InT.isT (hc21 i (by first | omega | (simp; omega))).2.2.2.2.2.2))) (fun v w' h => ⟨v, rfl, h.2, optDef zβ h.1⟩)
                    refine ⟨.inl ⟨rfl, true, .none rfl, (fun gg b h => by cases h), fun h w => optUndef h, fun zβ za zw zc => ?_⟩, ?_⟩
                    · exact addb_3 rfl ((show za.eval (.tmp 99) = za.tmps.getD 99 undef from rfl).trans (optSVal (zc.dep 5 99 (by kernel_rfl) (by decide)) rfl rfl)) ((show za.eval (.tmp 106) = za.tmps.getD 106 undef from rfl).trans (optSVal (zc.dep 12 106 (by kernel_rfl) (by decide)) rfl rfl)) (wrap_eq rfl (by have z := hL0 (2 + 4 * f + 2 * 1); omega) (by have z := hL1 (2 + 4 * f + 2 * 1) (by unfold evn; omega); have z2 := T.often_le (lget l i).r f; have z3 := hpr hil; omega)) ⟨_, rfl, Below.refl _ _, optDef zβ rfl⟩
                    refine ⟨.inl ⟨rfl, true, .none rfl, (fun gg b h => by cases h), fun h w => optUndef h, fun zβ za zw zc => ?_⟩, ?_⟩
                    · exact ix_27 (k := (2 + 4 * f + 2 * 1)) rfl ((show za.eval (.tmp 94) = za.tmps.getD 94 undef from rfl).trans (optSVal (zc.dep 0 94 (by kernel_rfl) (by decide)) rfl rfl)) rfl ((show za.eval (.tmp 95) = za.tmps.getD 95 undef from rfl).trans (optSVal (zc.dep 1 95 (by kernel_rfl) (by decide)) rfl rfl)) (by first | omega | (simp; omega)) ⟨_, rfl, Below.refl _ _, optDef zβ rfl⟩
                    refine ⟨.inr ⟨rfl, rfl, fun za zw zc => ?_⟩, ?_⟩
                    · have zm := ho73.below zc.below
                      exact st_3 rfl ((show za.eval (.tmp 108) = za.tmps.getD 108 undef from rfl).trans (optSVal (zc.dep 14 108 (by kernel_rfl) (by decide)) rfl rfl)) ((show za.eval (.tmp 107) = za.tmps.getD 107 undef from rfl).trans (optSVal (zc.dep 13 107 (by kernel_rfl) (by decide)) rfl rfl)) zm.blk (IRow.size zm (by omega)) (fun v => ⟨v, rfl, IRow.setAt zm _ (by omega) (by omega), .ofUpd (Upd.at_ _ _ _ _) rfl⟩)
                    exact trivial
                  · intro za w76 zh hG77 hc78 zu
                    have hb79 := chg_below hb74 hc78 (fun b hb => (by (try dsimp only at *); omega))
                    clear zu
                    refine (show WE _ [(0, .int .i64 (((n : Nat) : Int))), (1, .slice a l.length c), (4, .slice none 0 0), (5, .slice ((some ⟨ob, 0, none⟩)) ((2 + 4 * n)) ((2 + 4 * n))), (6, .int .i64 (((i : Nat) : Int))), (7, .int .i64 1), (8, .int .i64 (((f : Nat) : Int))), (9, .int .i64 ((((2 + 4 * f + 2 * 1) : Nat) : Int))), (15, .bool (((decide ((((n : Nat) : Int) : Int) < (0 : Int))) || (decide ((96 : Int) < (((n : Nat) : Int) : Int)))))), (23, .bool ((decide ((((i : Nat) : Int) : Int) < (((l.length : Nat) : Int) : Int))))), (30, .bool ((lget l i).neg)), (39, .bool ((decide ((((f : Nat) : Int) : Int) < (((n : Nat) : Int) : Int))))), (54, .bool ((!(lget l i).l.isTrue))), (93, .bool ((!(lget l i).r.isTrue)))] w76 _ .normal from ?_) za (zh.sub ⟨rfl, rfl, rfl, rfl, rfl, rfl, rfl, rfl, rfl, rfl, rfl, rfl, rfl, rfl, trivial⟩)
                    refine WE.next ?_
                    have hSlt : ∀ b, (fun b => b = ob) b → b < w76.heap.size := fun b e => e ▸ hG77.lt
                    refine WC.tail1 (S := ((fun b => b = ob))) [(true, .val (.slice ((some ⟨ob, 0, none⟩)) ((2 + 4 * n)) ((2 + 4 * n)))), (true, .val (.int .i64 ((((2 + 4 * f + 2 * 1) : Nat) : Int)))), (true, .val (.int .i64 (((((2 + 4 * f + 2 * 1) + 1) : Nat) : Int)))), (true, .val (.slice ((some ⟨ob, 0, none⟩)) ((2 + 4 * n)) ((2 + 4 * n)))), (true, .val (.int .i64 ((((2 + 4 * f + 2 * 1) : Nat) : Int)))), (true, .val (.int .i64 (((((2 + 4 * f + 2 * 1) + 1) : Nat) : Int)))), (true, .val (.pointer (some ⟨ob, 0 + (((2 + 4 * f + 2 * 1) + 1)), none⟩))), (true, .val (.int .i64 (((gset ((refS 1 f (lget l i).l (rG (lget l i) (gset (outG n l i) 1 (outG n l i 1 + 1)) f))) ((2 + 4 * f + 2 * 1)) ((((refS 1 f (lget l i).l (rG (lget l i) (gset (outG n l i) 1 (outG n l i 1 + 1)) f)) ((2 + 4 * f + 2 * 1))) + ((((lget l i).r.often f) : Nat) : Int)))) (((2 + 4 * f + 2 * 1) + 1)))))), (true, .val (.slice a l.length c)), (true, .val (.int .i64 (((i : Nat) : Int)))), (true, .val (.pointer (some ⟨b14, o15 + i * 5, none⟩))), (true, .val (.pointer (some ⟨b14, o15 + i * 5 + 3, none⟩))), (true, .val (.agg #[.int .i64 ((lget l i).r.f), .slice ((A18 i)) ((lget l i).r.args.length) ((C19 i))])), (true, .val (.int .i64 (((f : Nat) : Int)))), (true, .val (.int .i64 (((((lget l i).r.deep f 1) : Nat) : Int)))), (true, .val (.int .i64 ((max (((gset ((refS 1 f (lget l i).l (rG (lget l i) (gset (outG n l i) 1 (outG n l i 1 + 1)) f))) ((2 + 4 * f + 2 * 1)) ((((refS 1 f (lget l i).l (rG (lget l i) (gset (outG n l i) 1 (outG n l i 1 + 1)) f)) ((2 + 4 * f + 2 * 1))) + ((((lget l i).r.often f) : Nat) : Int)))) (((2 + 4 * f + 2 * 1) + 1)))) (((((lget l i).r.deep f 1) : Nat) : Int)))))), (true, .val (.pointer (some ⟨ob, 0 + (((2 + 4 * f + 2 * 1) + 1)), none⟩))), (true, .val undef)] [(0, .int .i64 (((n : Nat) : Int))), (1, .slice a l.length c), (4, .slice none 0 0), (5, .slice ((some ⟨ob, 0, none⟩)) ((2 + 4 * n)) ((2 + 4 * n))), (6, .int .i64 (((i : Nat) : Int))), (7, .int .i64 1), (8, .int .i64 (((f : Nat) : Int))), (9, .int .i64 ((((2 + 4 * f + 2 * 1) : Nat) : Int))), (15, .bool (((decide ((((n : Nat) : Int) : Int) < (0 : Int))) || (decide ((96 : Int) < (((n : Nat) : Int) : Int)))))), (23, .bool ((decide ((((i : Nat) : Int) : Int) < (((l.length : Nat) : Int) : Int))))), (30, .bool ((lget l i).neg)), (39, .bool ((decide ((((f : Nat) : Int) : Int) < (((n : Nat) : Int) : Int))))), (54, .bool ((!(lget l i).l.isTrue))), (93, .bool ((!(lget l i).r.isTrue)))] 17 (fun wz => IRow wz 3 ob (2 + 4 * n) (gset ((gset ((refS 1 f (lget l i).l (rG (lget l i) (gset (outG n l i) 1 (outG n l i 1 + 1)) f))) ((2 + 4 * f + 2 * 1)) ((((refS 1 f (lget l i).l (rG (lget l i) (gset (outG n l i) 1 (outG n l i 1 + 1)) f)) ((2 + 4 * f + 2 * 1))) + ((((lget l i).r.often f) : Nat) : Int))))) (((2 + 4 * f + 2 * 1) + 1)) ((max (((gset ((refS 1 f (lget l i).l (rG (lget l i) (gset (outG n l i) 1 (outG n l i 1 + 1)) f))) ((2 + 4 * f + 2 * 1)) ((((refS 1 f (lget l i).l (rG (lget l i) (gset (outG n l i) 1 (outG n l i 1 + 1)) f)) ((2 + 4 * f + 2 * 1))) + ((((lget l i).r.often f) : Nat) : Int)))) (((2 + 4 * f + 2 * 1) + 1)))) (((((lget l i).r.deep f 1) : Nat) : Int)))))) (fun w w' hb h => h.below hb) ⟨rfl, rfl, rfl, rfl, rfl, rfl, rfl, rfl, rfl, rfl, rfl, rfl, rfl, rfl, trivial⟩ (by kernel_rfl) (by kernel_rfl) (by kernel_rfl) (by kernel_rfl) ?_ ?_
                    · refine ⟨.inl ⟨rfl, true, .none rfl, (fun gg b h => by cases h), fun h w => optUndef h, fun zβ za zw zc => ?_⟩, ?_⟩
                      · exact wp_move rfl (zc.kn.ev rfl) ⟨_, rfl, Below.refl _ _, optDef zβ rfl⟩
                      refine ⟨.inl ⟨rfl, true, .none rfl, (fun gg b h => by cases h), fun h w => optUndef h, fun zβ za zw zc => ?_⟩, ?_⟩
                      · exact wp_move rfl (zc.kn.ev rfl) ⟨_, rfl, Below.refl _ _, optDef zβ rfl⟩
                      refine ⟨.inl ⟨rfl, true, .none rfl, (fun gg b h => by cases h), fun h w => optUndef h, fun zβ za zw zc => ?_⟩, ?_⟩
                      · exact addb_3 rfl ((show za.eval (.tmp 110) = za.tmps.getD 110 undef from rfl).trans (optSVal (zc.dep 1 110 (by kernel_rfl) (by decide)) rfl rfl)) (zc.kn.ev rfl) (wrap_eq (by omega) (by omega) (by omega)) ⟨_, rfl, Below.refl _ _, optDef zβ rfl⟩
                      refine ⟨.inl ⟨rfl, true, .none rfl, (fun gg b h => by cases h), fun h w => optUndef h, fun zβ za zw zc => ?_⟩, ?_⟩
                      · exact wp_move rfl (zc.kn.ev rfl) ⟨_, rfl, Below.refl _ _, optDef zβ rfl⟩
                      refine ⟨.inl ⟨rfl, true, .none rfl, (fun gg b h => by cases h), fun h w => optUndef h, fun zβ za zw zc => ?_⟩, ?_⟩
                      · exact wp_move rfl (zc.kn.ev rfl) ⟨_, rfl, Below.refl _ _, optDef zβ rfl⟩
                      refine ⟨.inl ⟨rfl, true, .none rfl, (fun gg b h => by cases h), fun h w => optUndef h, fun zβ za zw zc => ?_⟩, ?_⟩
                      · exact addb_3 rfl ((show za.eval (.tmp 113) = za.tmps.getD 113 undef from rfl).trans (optSVal (zc.dep 4 113 (by kernel_rfl) (by decide)) rfl rfl)) (zc.kn.ev rfl) (wrap_eq (by omega) (by omega) (by omega)) ⟨_, rfl, Below.refl _ _, optDef zβ rfl⟩
                      refine ⟨.inl ⟨rfl, true, .none rfl, (fun gg b h => by cases h), fun h w => optUndef h, fun zβ za zw zc => ?_⟩, ?_⟩
                      · exact ix_27 (k := ((2 + 4 * f + 2 * 1) + 1)) rfl ((show za.eval (.tmp 112) = za.tmps.getD 112 undef from rfl).trans (optSVal (zc.dep 3 112 (by kernel_rfl) (by decide)) rfl rfl)) rfl ((show za.eval (.tmp 114) = za.tmps.getD 114 undef from rfl).trans (optSVal (zc.dep 5 114 (by kernel_rfl) (by decide)) rfl rfl)) (by first | omega | (simp; omega)) ⟨_, rfl, Below.refl _ _, optDef zβ rfl⟩
                      refine ⟨.inl ⟨rfl, true, .none rfl, (fun gg b h => by cases h), fun h w => optUndef h, fun zβ za zw zc => ?_⟩, ?_⟩
                      · exact ld_3 rfl ((show za.eval (.tmp 115) = za.tmps.getD 115 undef from rfl).trans (optSVal (zc.dep 6 115 (by kernel_rfl) (by decide)) rfl rfl)) (bkeeps (zc.early (by kernel_rfl)) _ _ (IRow.cellAt hG77 (by omega) (by omega))) ⟨_, rfl, Below.refl _ _, optDef zβ rfl⟩
                      refine ⟨.inl ⟨rfl, true, .none rfl, (fun gg b h => by cases h), fun h w => optUndef h, fun zβ za zw zc => ?_⟩, ?_⟩
                      · exact wp_move rfl (zc.kn.ev rfl) ⟨_, rfl, Below.refl _ _, optDef zβ rfl⟩
                      refine ⟨.inl ⟨rfl, true, .none rfl, (fun gg b h => by cases h), fun h w => optUndef h, fun zβ za zw zc => ?_⟩, ?_⟩
                      · exact wp_move rfl (zc.kn.ev rfl) ⟨_, rfl, Below.refl _ _, optDef zβ rfl⟩
                      refine ⟨.inl ⟨rfl, true, .none rfl, (fun gg b h => by cases h), fun h w => optUndef h, fun zβ za zw zc => ?_⟩, ?_⟩
                      · exact ix_23 (k := i) rfl ((show za.eval (.tmp 117) = za.tmps.getD 117 undef from rfl).trans (optSVal (zc.dep 8 117 (by kernel_rfl) (by decide)) rfl rfl)) (ha20 i (by first | omega | (simp; omega))) ((show za.eval (.tmp 118) = za.tmps.getD 118 undef from rfl).trans (optSVal (zc.dep 9 118 (by kernel_rfl) (by decide)) rfl rfl)) (by first | omega | (simp; omega)) ⟨_, rfl, Below.refl _ _, optDef zβ rfl⟩
                      refine ⟨.inl ⟨rfl, true, .none rfl, (fun gg b h => by cases h), fun h w => optUndef h, fun zβ za zw zc => ?_⟩, ?_⟩
                      · exact fld_34_2 rfl ((show za.eval (.tmp 119) = za.tmps.getD 119 undef from rfl).trans (optSVal (zc.dep 10 119 (by kernel_rfl) (by decide)) rfl rfl)) ⟨_, rfl, Below.refl _ _, optDef zβ rfl⟩
                      refine ⟨.inl ⟨rfl, true, .none rfl, (fun gg b h => by cases h), fun h w => optUndef h, fun zβ za zw zc => ?_⟩, ?_⟩
                      · exact ld_32 rfl ((show za.eval (.tmp 120) = za.tmps.getD 120 undef from rfl).trans (optSVal (zc.dep 11 120 (by kernel_rfl) (by decide)) rfl rfl)) (bkeeps (bstep hb79 (zc.early (by kernel_rfl))) _ _ (hc21 i (by first | omega | (simp; omega))).2.2.2.1) (bkeeps (bstep hb79 (zc.early (by kernel_rfl))) _ _ (hc21 i (by first | omega | (simp; omega))).2.2.2.2.1) ⟨_, rfl, Below.refl _ _, optDef zβ rfl⟩
                      refine ⟨.inl ⟨rfl, true, .none rfl, (fun gg b h => by cases h), fun h w => optUndef h, fun zβ za zw zc => ?_⟩, ?_⟩
                      · exact wp_move rfl (zc.kn.ev rfl) ⟨_, rfl, Below.refl _ _, optDef zβ rfl⟩
                      refine ⟨.inl ⟨rfl, true, .none rfl, (fun gg b h => by cases h), fun h w => optUndef h, fun zβ za zw zc => ?_⟩, ?_⟩
                      · exact wp_call (by kernel_rfl) rfl (hv3 ((show za.eval (.tmp 121) = za.tmps.getD 121 undef from rfl).trans (optSVal (zc.dep 12 121 (by kernel_rfl) (by decide)) rfl rfl)) ((show za.eval (.tmp 122) = za.tmps.getD 122 undef from rfl).trans (optSVal (zc.dep 13 122 (by kernel_rfl) (by decide)) rfl rfl)) (zc.kn.ev rfl)) (deep_any f (by omega) ((lget l i).r) 1 _ _ (by have z := (hpr hil); omega) (hpr hil) (IsT.below (bstep hb79 (zc.early (by kernel_rfl))) (InT.isT (hc21 i (by first | omega | (simp; omega))).2.2.2.2.2.2))) (fun v w' h => ⟨v, rfl, h.2, optDef zβ h.1⟩)
                      refine ⟨.inl ⟨rfl, true, .none rfl, (fun gg b h => by cases h), fun h w => optUndef h, fun zβ za zw zc => ?_⟩, ?_⟩
                      · exact wp_max3 rfl ((show za.eval (.tmp 116) = za.tmps.getD 116 undef from rfl).trans (optSVal (zc.dep 7 116 (by kernel_rfl) (by decide)) rfl rfl)) ((show za.eval (.tmp 123) = za.tmps.getD 123 undef from rfl).trans (optSVal (zc.dep 14 123 (by kernel_rfl) (by decide)) rfl rfl)) rfl ⟨_, rfl, Below.refl _ _, optDef zβ rfl⟩
                      refine ⟨.inl ⟨rfl, true, .none rfl, (fun gg b h => by cases h), fun h w => optUndef h, fun zβ za zw zc => ?_⟩, ?_⟩
                      · exact ix_27 (k := ((2 + 4 * f + 2 * 1) + 1)) rfl ((show za.eval (.tmp 109) = za.tmps.getD 109 undef from rfl).trans (optSVal (zc.dep 0 109 (by kernel_rfl) (by decide)) rfl rfl)) rfl ((show za.eval (.tmp 111) = za.tmps.getD 111 undef from rfl).trans (optSVal (zc.dep 2 111 (by kernel_rfl) (by decide)) rfl rfl)) (by first | omega | (simp; omega)) ⟨_, rfl, Below.refl _ _, optDef zβ rfl⟩
                      refine ⟨.inr ⟨rfl, rfl, fun za zw zc => ?_⟩, ?_⟩
                      · have zm := hG77.below zc.below
                        exact st_3 rfl ((show za.eval (.tmp 125) = za.tmps.getD 125 undef from rfl).trans (optSVal (zc.dep 16 125 (by kernel_rfl) (by decide)) rfl rfl)) ((show za.eval (.tmp 124) = za.tmps.getD 124 undef from rfl).trans (optSVal (zc.dep 15 124 (by kernel_rfl) (by decide)) rfl rfl)) zm.blk (IRow.size zm (by omega)) (fun v => ⟨v, rfl, IRow.setAt zm _ (by omega) (by omega), .ofUpd (Upd.at_ _ _ _ _) rfl⟩)
                      exact trivial
                    · intro za w81 zh hG82 hc83 zu
                      have hb84 := chg_below hb79 hc83 (fun b hb => (by (try dsimp only at *); omega))
                      have hM85 := IRow.congr hG82 (refS_not (way := 1) (f := f) htR).symm
                      clear zu
                      refine (show WE _ [(0, .int .i64 (((n : Nat) : Int))), (1, .slice a l.length c), (4, .slice none 0 0), (5, .slice ((some ⟨ob, 0, none⟩)) ((2 + 4 * n)) ((2 + 4 * n))), (6, .int .i64 (((i : Nat) : Int))), (7, .int .i64 1), (8, .int .i64 (((f : Nat) : Int))), (9, .int .i64 ((((2 + 4 * f + 2 * 1) : Nat) : Int))), (15, .bool (((decide ((((n : Nat) : Int) : Int) < (0 : Int))) || (decide ((96 : Int) < (((n : Nat) : Int) : Int)))))), (23, .bool ((decide ((((i : Nat) : Int) : Int) < (((l.length : Nat) : Int) : Int))))), (30, .bool ((lget l i).neg)), (39, .bool ((decide ((((f : Nat) : Int) : Int) < (((n : Nat) : Int) : Int))))), (54, .bool ((!(lget l i).l.isTrue))), (93, .bool ((!(lget l i).r.isTrue)))] w81 _ .normal from ?_) za (zh.sub ⟨rfl, rfl, rfl, rfl, rfl, rfl, rfl, rfl, rfl, rfl, rfl, rfl, rfl, rfl, trivial⟩)
                      refine WE.blockNormal ?_
                      refine WE.next ?_
                      refine WC.region ?_
                      refine WL.val (.int .i64 (((f : Nat) : Int))) rfl rfl rfl (fun za zC zh zk => wp_move rfl (zh.ev rfl) zk) ?_
                      refine WL.val (.int .i64 ((((f + 1) : Nat) : Int))) rfl rfl rfl (fun za zC zh zk => addb_3 rfl (zh.ev rfl) (zh.ev rfl) (wrap_eq (by omega) (by omega) (by omega)) zk) ?_
                      refine WL.val (.int .i64 ((((f + 1) : Nat) : Int))) rfl rfl rfl (fun za zC zh zk => wp_assign rfl (zh.ev rfl) zk) ?_
                      refine WL.nil (WE.sub (K' := [(0, .int .i64 (((n : Nat) : Int))), (1, .slice a l.length c), (4, .slice none 0 0), (5, .slice ((some ⟨ob, 0, none⟩)) ((2 + 4 * n)) ((2 + 4 * n))), (6, .int .i64 (((i : Nat) : Int))), (7, .int .i64 1), (8, .int .i64 ((((f + 1) : Nat) : Int))), (9, .int .i64 ((((2 + 4 * f + 2 * 1) : Nat) : Int))), (15, .bool (((decide ((((n : Nat) : Int) : Int) < (0 : Int))) || (decide ((96 : Int) < (((n : Nat) : Int) : Int)))))), (23, .bool ((decide ((((i : Nat) : Int) : Int) < (((l.length : Nat) : Int) : Int))))), (30, .bool ((lget l i).neg)), (39, .bool ((decide ((((f : Nat) : Int) : Int) < (((n : Nat) : Int) : Int))))), (54, .bool ((!(lget l i).l.isTrue))), (93, .bool ((!(lget l i).r.isTrue)))]) ⟨rfl, rfl, rfl, rfl, rfl, rfl, rfl, rfl, rfl, rfl, rfl, rfl, rfl, rfl, trivial⟩ ?_)
                      refine WE.round (f + 1) ⟨rfl, rfl, rfl, rfl, rfl, rfl, rfl, rfl, rfl, rfl, trivial⟩ ?_ ?_
                      · exact ⟨by omega, hb84, (IRow.congr hM85 (by rw [rG_succ, ← hway]))⟩
                      · omega
                · have h72 : ¬ (¬ ((lget l i).r.isTrue = true)) := by simpa using h72
                  have htR : (lget l i).r.isTrue = true := by simpa using h72
                  have ho87 := hM67.below hq70
                  have hM86 := IRow.congr ho87 (refS_true (t := (lget l i).r) (way := 1) (f := f) htR).symm
                  refine WC.skip ?_
                  refine WE.blockNormal ?_
                  refine WE.next ?_
                  refine WC.region ?_
                  refine WL.val (.int .i64 (((f : Nat) : Int))) rfl rfl rfl (fun za zC zh zk => wp_move rfl (zh.ev rfl) zk) ?_
                  refine WL.val (.int .i64 ((((f + 1) : Nat) : Int))) rfl rfl rfl (fun za zC zh zk => addb_3 rfl (zh.ev rfl) (zh.ev rfl) (wrap_eq (by omega) (by omega) (by omega)) zk) ?_
                  refine WL.val (.int .i64 ((((f + 1) : Nat) : Int))) rfl rfl rfl (fun za zC zh zk => wp_assign rfl (zh.ev rfl) zk) ?_
                  refine WL.nil (WE.sub (K' := [(0, .int .i64 (((n : Nat) : Int))), (1, .slice a l.length c), (4, .slice none 0 0), (5, .slice ((some ⟨ob, 0, none⟩)) ((2 + 4 * n)) ((2 + 4 * n))), (6, .int .i64 (((i : Nat) : Int))), (7, .int .i64 1), (8, .int .i64 ((((f + 1) : Nat) : Int))), (9, .int .i64 ((((2 + 4 * f + 2 * 1) : Nat) : Int))), (15, .bool (((decide ((((n : Nat) : Int) : Int) < (0 : Int))) || (decide ((96 : Int) < (((n : Nat) : Int) : Int)))))), (23, .bool ((decide ((((i : Nat) : Int) : Int) < (((l.length : Nat) : Int) : Int))))), (30, .bool ((lget l i).neg)), (39, .bool ((decide ((((f : Nat) : Int) : Int) < (((n : Nat) : Int) : Int))))), (54, .bool ((!(lget l i).l.isTrue))), (93, .bool ((!(lget l i).r.isTrue)))]) ⟨rfl, rfl, rfl, rfl, rfl, rfl, rfl, rfl, rfl, rfl, rfl, rfl, rfl, rfl, trivial⟩ ?_)
                  refine WE.round (f + 1) ⟨rfl, rfl, rfl, rfl, rfl, rfl, rfl, rfl, rfl, rfl, trivial⟩ ?_ ?_
                  · have hb88 : Below w.heap.size w w71 := (bstep hb69 hq70)
                    exact ⟨by omega, hb88, (IRow.congr hM86 (by rw [rG_succ, ← hway]))⟩
                  · omega
            · have h31 : ¬ ((((f : Nat) : Int) : Int) < (((n : Nat) : Int) : Int)) := by simpa using h31
              have hfe : f = n := by omega
              refine WC.exit ?_
              refine WE.thenExit ?_
              refine WE.thenExit ?_
              refine WE.blockIs rfl ?_
              refine WE.blockNormal ?_
              refine WE.next ?_
              refine WC.region ?_
              refine WL.val (.int .i64 (((i : Nat) : Int))) rfl rfl rfl (fun za zC zh zk => wp_move rfl (zh.ev rfl) zk) ?_
              refine WL.val (.int .i64 ((((i + 1) : Nat) : Int))) rfl rfl rfl (fun za zC zh zk => addb_3 rfl (zh.ev rfl) (zh.ev rfl) (wrap_eq (by omega) (by omega) (by omega)) zk) ?_
              refine WL.val (.int .i64 ((((i + 1) : Nat) : Int))) rfl rfl rfl (fun za zC zh zk => wp_assign rfl (zh.ev rfl) zk) ?_
              refine WL.nil (WE.sub (K' := [(0, .int .i64 (((n : Nat) : Int))), (1, .slice a l.length c), (4, .slice none 0 0), (5, .slice ((some ⟨ob, 0, none⟩)) ((2 + 4 * n)) ((2 + 4 * n))), (6, .int .i64 ((((i + 1) : Nat) : Int))), (7, .int .i64 1), (8, .int .i64 (((f : Nat) : Int))), (15, .bool (((decide ((((n : Nat) : Int) : Int) < (0 : Int))) || (decide ((96 : Int) < (((n : Nat) : Int) : Int)))))), (23, .bool ((decide ((((i : Nat) : Int) : Int) < (((l.length : Nat) : Int) : Int))))), (30, .bool ((lget l i).neg)), (39, .bool ((decide ((((f : Nat) : Int) : Int) < (((n : Nat) : Int) : Int)))))]) ⟨rfl, rfl, rfl, rfl, rfl, rfl, rfl, rfl, rfl, rfl, rfl, trivial⟩ ?_)
              refine WE.round (i + 1) ⟨rfl, rfl, rfl, rfl, rfl, rfl, trivial⟩ ?_ ?_
              · exact ⟨by omega, (fun k hk => by rw [outG_succ (by omega), lit_rG hg0 hway]; have z := rG_ev hg1 hg1b (hpl (by omega)) (hpr (by omega)) n k hk; omega), hb29, (IRow.congr ho30 (by rw [outG_succ (by omega), lit_rG hg0 hway, ← hfe]))⟩
              · omega
        · skip
          refine WC.skip ?_
          refine WE.next ?_
          refine WC.seq ?_
          refine WC.region ?_
          refine WL.val (.slice ((some ⟨ob, 0, none⟩)) ((2 + 4 * n)) ((2 + 4 * n))) rfl rfl rfl (fun za zC zh zk => wp_move rfl (zh.ev rfl) zk) ?_
          refine WL.val (.int .i64 0) rfl rfl rfl (fun za zC zh zk => wp_move rfl (zh.ev rfl) zk) ?_
          refine WL.val (.pointer (some ⟨ob, 0, none⟩)) rfl rfl rfl (fun za zC zh zk => ix_27 (k := 0) rfl (zh.ev rfl) rfl (zh.ev rfl) (by first | omega | (simp; omega)) zk) ?_
          refine WL.val (.int .i64 (((outG n l i) 0))) rfl rfl rfl (fun za zC zh zk => ld_3 rfl (zh.ev rfl) (IRow.cellAt ho12 (by omega) (by omega)) zk) ?_
          refine WL.val (.int .i64 ((((outG n l i) 0) + 1))) rfl rfl rfl (fun za zC zh zk => addb_3 rfl (zh.ev rfl) (zh.ev rfl) (wrap_eq rfl (by have z := hg0 0; omega) (by have z := hgb 0 (by unfold evn; omega); omega)) zk) ?_
          refine WL.val (.pointer (some ⟨ob, 0, none⟩)) rfl rfl rfl (fun za zC zh zk => ix_27 (k := 0) rfl (zh.ev rfl) rfl (zh.ev rfl) (by first | omega | (simp; omega)) zk) ?_
          refine WL.step (post := fun _ w' => Upd ob w9 w' ∧ IRow w' 3 ob (2 + 4 * n) (gset ((outG n l i)) 0 ((((outG n l i) 0) + 1)))) rfl rfl rfl (fun za zC zh zk => st_3 rfl (zh.ev rfl) (zh.ev rfl) (ho12).blk (IRow.size ho12 (by omega)) (fun v => zk v _ ⟨Upd.at_ _ _ _ _, IRow.setAt ho12 _ (by omega) (by omega)⟩)) ?_
          rintro v92 w89 ⟨hu90, hM91⟩
          have hb93 := upd_below hb11 hu90 (by omega)
          refine WL.nil (WE.sub (K' := [(0, .int .i64 (((n : Nat) : Int))), (1, .slice a l.length c), (4, .slice none 0 0), (5, .slice ((some ⟨ob, 0, none⟩)) ((2 + 4 * n)) ((2 + 4 * n))), (6, .int .i64 (((i : Nat) : Int))), (7, .int .i64 0), (15, .bool (((decide ((((n : Nat) : Int) : Int) < (0 : Int))) || (decide ((96 : Int) < (((n : Nat) : Int) : Int)))))), (23, .bool ((decide ((((i : Nat) : Int) : Int) < (((l.length : Nat) : Int) : Int))))), (30, .bool ((lget l i).neg))]) ⟨rfl, rfl, rfl, rfl, rfl, rfl, rfl, rfl, rfl, trivial⟩ ?_)
          refine WE.next ?_
          refine WC.seq ?_
          refine WC.region ?_
          refine WL.val (.int .i64 0) rfl rfl rfl (fun za zC zh zk => wp_assign rfl (zh.ev rfl) zk) ?_
          refine WL.nil (WE.sub (K' := [(0, .int .i64 (((n : Nat) : Int))), (1, .slice a l.length c), (4, .slice none 0 0), (5, .slice ((some ⟨ob, 0, none⟩)) ((2 + 4 * n)) ((2 + 4 * n))), (6, .int .i64 (((i : Nat) : Int))), (7, .int .i64 0), (8, .int .i64 0), (15, .bool (((decide ((((n : Nat) : Int) : Int) < (0 : Int))) || (decide ((96 : Int) < (((n : Nat) : Int) : Int)))))), (23, .bool ((decide ((((i : Nat) : Int) : Int) < (((l.length : Nat) : Int) : Int))))), (30, .bool ((lget l i).neg))]) ⟨rfl, rfl, rfl, rfl, rfl, rfl, rfl, rfl, rfl, rfl, trivial⟩ ?_)
          refine WE.next ?_
          refine WC.block ?_
          have hway : 0 = (lget l i).way := li_way (by simpa using h22) rfl
          have hg1 : ∀ k, 0 ≤ (gset (outG n l i) 0 (outG n l i 0 + 1)) k := inc_nonneg hg0
          have hg1b : ∀ k, evn k → (gset (outG n l i) 0 (outG n l i 0 + 1)) k ≤ i * 17179869184 + 1 := fun k hk => gset_ev hgb (by unfold evn; omega) hk
          refine WC.loop (X := Nat) (fun f => n - f) (fun f => [(0, .int .i64 (((n : Nat) : Int))), (1, .slice a l.length c), (4, .slice none 0 0), (5, .slice ((some ⟨ob, 0, none⟩)) ((2 + 4 * n)) ((2 + 4 * n))), (6, .int .i64 (((i : Nat) : Int))), (7, .int .i64 0), (8, .int .i64 (((f : Nat) : Int))), (15, .bool (((decide ((((n : Nat) : Int) : Int) < (0 : Int))) || (decide ((96 : Int) < (((n : Nat) : Int) : Int)))))), (23, .bool ((decide ((((i : Nat) : Int) : Int) < (((l.length : Nat) : Int) : Int))))), (30, .bool ((lget l i).neg))]) (fun f w94 => f ≤ n ∧ Below w.heap.size w w94 ∧ IRow (w94) 3 ob (2 + 4 * n) (rG (lget l i) (gset (outG n l i) 0 (outG n l i 0 + 1)) f)) 0 ⟨rfl, rfl, rfl, rfl, rfl, rfl, rfl, rfl, rfl, rfl, trivial⟩ ?_ ?_
          · exact ⟨Nat.zero_le _, hb93, hM91⟩
          · rintro f w94 ⟨hfn, hb95, ho96⟩
            have hf0 : ∀ k, 0 ≤ (rG (lget l i) (gset (outG n l i) 0 (outG n l i 0 + 1)) f) k := fun k => rG_nonneg hg1 f k
            have hf1 : ∀ k, evn k → (rG (lget l i) (gset (outG n l i) 0 (outG n l i 0 + 1)) f) k ≤ i * 17179869184 + 1 + 8589934592 := fun k hk => rG_ev hg1 hg1b (hpl (by omega)) (hpr (by omega)) f k hk
            refine WC.seq ?_
            refine WC.seq ?_
            refine WC.region ?_
            refine WL.val (.int .i64 (((f : Nat) : Int))) rfl rfl rfl (fun za zC zh zk => wp_move rfl (zh.ev rfl) zk) ?_
            refine WL.val (.int .i64 (((n : Nat) : Int))) rfl rfl rfl (fun za zC zh zk => wp_move rfl (zh.ev rfl) zk) ?_
            refine WL.val (.bool ((decide ((((f : Nat) : Int) : Int) < (((n : Nat) : Int) : Int))))) rfl rfl rfl (fun za zC zh zk => lss_3 rfl (zh.ev rfl) (zh.ev rfl) zk) ?_
            refine WL.nil (WE.sub (K' := [(0, .int .i64 (((n : Nat) : Int))), (1, .slice a l.length c), (4, .slice none 0 0), (5, .slice ((some ⟨ob, 0, none⟩)) ((2 + 4 * n)) ((2 + 4 * n))), (6, .int .i64 (((i : Nat) : Int))), (7, .int .i64 0), (8, .int .i64 (((f : Nat) : Int))), (15, .bool (((decide ((((n : Nat) : Int) : Int) < (0 : Int))) || (decide ((96 : Int) < (((n : Nat) : Int) : Int)))))), (23, .bool ((decide ((((i : Nat) : Int) : Int) < (((l.length : Nat) : Int) : Int))))), (30, .bool ((lget l i).neg)), (39, .bool ((decide ((((f : Nat) : Int) : Int) < (((n : Nat) : Int) : Int)))))]) ⟨rfl, rfl, rfl, rfl, rfl, rfl, rfl, rfl, rfl, rfl, rfl, trivial⟩ ?_)
            refine WE.next ?_
            refine WC.cond rfl (fun h97 => ?_) (fun h97 => ?_)
            · have h97 : (((f : Nat) : Int) : Int) < (((n : Nat) : Int) : Int) := by simpa using h97
              have hfl : f < n := by omega
              refine WC.skip ?_
              refine WE.next ?_
              refine WC.seq ?_
              refine WC.block ?_
              refine WC.seq ?_
              refine WC.region ?_
              refine WL.val (.int .i64 (((f : Nat) : Int))) rfl rfl rfl (fun za zC zh zk => wp_move rfl (zh.ev rfl) zk) ?_
              refine WL.val (.int .i64 ((((4 * f) : Nat) : Int))) rfl rfl rfl (fun za zC zh zk => mulb_3 rfl (zh.ev rfl) (zh.ev rfl) (wrap_eq (by omega) (by omega) (by omega)) zk) ?_
              refine WL.val (.int .i64 ((((2 + 4 * f) : Nat) : Int))) rfl rfl rfl (fun za zC zh zk => addb_3 rfl (zh.ev rfl) (zh.ev rfl) (wrap_eq (by omega) (by omega) (by omega)) zk) ?_
              refine WL.val (.int .i64 0) rfl rfl rfl (fun za zC zh zk => wp_move rfl (zh.ev rfl) zk) ?_
              refine WL.val (.int .i64 ((((2 * 0) : Nat) : Int))) rfl rfl rfl (fun za zC zh zk => mulb_3 rfl (zh.ev rfl) (zh.ev rfl) (wrap_eq (by omega) (by omega) (by omega)) zk) ?_
              refine WL.val (.int .i64 ((((2 + 4 * f + 2 * 0) : Nat) : Int))) rfl rfl rfl (fun za zC zh zk => addb_3 rfl (zh.ev rfl) (zh.ev rfl) (wrap_eq (by omega) (by omega) (by omega)) zk) ?_
              refine WL.val (.int .i64 ((((2 + 4 * f + 2 * 0) : Nat) : Int))) rfl rfl rfl (fun za zC zh zk => wp_assign rfl (zh.ev rfl) zk) ?_
              refine WL.nil (WE.sub (K' := [(0, .int .i64 (((n : Nat) : Int))), (1, .slice a l.length c), (4, .slice none 0 0), (5, .slice ((some ⟨ob, 0, none⟩)) ((2 + 4 * n)) ((2 + 4 * n))), (6, .int .i64 (((i : Nat) : Int))), (7, .int .i64 0), (8, .int .i64 (((f : Nat) : Int))), (9, .int .i64 ((((2 + 4 * f + 2 * 0) : Nat) : Int))), (15, .bool (((decide ((((n : Nat) : Int) : Int) < (0 : Int))) || (decide ((96 : Int) < (((n : Nat) : Int) : Int)))))), (23, .bool ((decide ((((i : Nat) : Int) : Int) < (((l.length : Nat) : Int) : Int))))), (30, .bool ((lget l i).neg)), (39, .bool ((decide ((((f : Nat) : Int) : Int) < (((n : Nat) : Int) : Int)))))]) ⟨rfl, rfl, rfl, rfl, rfl, rfl, rfl, rfl, rfl, rfl, rfl, rfl, trivial⟩ ?_)
              refine WE.next ?_
              refine WC.seq ?_
              refine WC.seq ?_
              refine WC.region ?_
              refine WL.val (.slice a l.length c) rfl rfl rfl (fun za zC zh zk => wp_move rfl (zh.ev rfl) zk) ?_
              refine WL.val (.int .i64 (((i : Nat) : Int))) rfl rfl rfl (fun za zC zh zk => wp_move rfl (zh.ev rfl) zk) ?_
              refine WL.val (.pointer (some ⟨b14, o15 + i * 5, none⟩)) rfl rfl rfl (fun za zC zh zk => ix_23 (k := i) rfl (zh.ev rfl) (ha20 i (by first | omega | (simp; omega))) (zh.ev rfl) (by first | omega | (simp; omega)) zk) ?_
              refine WL.val (.pointer (some ⟨b14, o15 + i * 5 + 1, none⟩)) rfl rfl rfl (fun za zC zh zk => fld_34_1 rfl (zh.ev rfl) zk) ?_
              refine WL.val (.agg #[.int .i64 ((lget l i).l.f), .slice ((A16 i)) ((lget l i).l.args.length) ((C17 i))]) rfl rfl rfl (fun za zC zh zk => ld_32 rfl (zh.ev rfl) (bkeeps hb95 _ _ (hc21 i (by first | omega | (simp; omega))).2.1) (bkeeps hb95 _ _ (hc21 i (by first | omega | (simp; omega))).2.2.1) zk) ?_
              refine WL.call rfl rfl rfl (fun za zh zC => wp_call (by kernel_rfl) rfl (hv1 (zh.ev rfl))) (rtrue_any ((lget l i).l) _ _ (IsT.below hb95 (InT.isT (hc21 i (by first | omega | (simp; omega))).2.2.2.2.2.1))) ?_
              rintro _ w99 ⟨rfl, hq98⟩
              refine WL.val (.bool ((!(lget l i).l.isTrue))) rfl rfl rfl (fun za zC zh zk => wp_not rfl (zh.ev rfl) zk) ?_
              refine WL.nil (WE.sub (K' := [(0, .int .i64 (((n : Nat) : Int))), (1, .slice a l.length c), (4, .slice none 0 0), (5, .slice ((some ⟨ob, 0, none⟩)) ((2 + 4 * n)) ((2 + 4 * n))), (6, .int .i64 (((i : Nat) : Int))), (7, .int .i64 0), (8, .int .i64 (((f : Nat) : Int))), (9, .int .i64 ((((2 + 4 * f + 2 * 0) : Nat) : Int))), (15, .bool (((decide ((((n : Nat) : Int) : Int) < (0 : Int))) || (decide ((96 : Int) < (((n : Nat) : Int) : Int)))))), (23, .bool ((decide ((((i : Nat) : Int) : Int) < (((l.length : Nat) : Int) : Int))))), (30, .bool ((lget l i).neg)), (39, .bool ((decide ((((f : Nat) : Int) : Int) < (((n : Nat) : Int) : Int))))), (54, .bool ((!(lget l i).l.isTrue)))]) ⟨rfl, rfl, rfl, rfl, rfl, rfl, rfl, rfl, rfl, rfl, rfl, rfl, rfl, trivial⟩ ?_)
              refine WE.next ?_
              refine WC.cond rfl (fun h100 => ?_) (fun h100 => ?_)
              · have h100 : ¬ ((lget l i).l.isTrue = true) := by simpa using h100
                have htL : ¬ (lget l i).l.isTrue = true := by simpa using h100
                have hL0 : ∀ k, 0 ≤ (refS 0 f (lget l i).l (rG (lget l i) (gset (outG n l i) 0 (outG n l i 0 + 1)) f)) k := fun k => refS_nonneg hf0 k
                have hL1 : ∀ k, evn k → (refS 0 f (lget l i).l (rG (lget l i) (gset (outG n l i) 0 (outG n l i 0 + 1)) f)) k ≤ i * 17179869184 + 1 + 8589934592 + 4294967296 := fun k hk => refS_ev hf0 hf1 (hpl hil) k hk
                refine WC.seq ?_
                have ho101 := ho96.below hq98
                have hb102 : Below w.heap.size w w99 := (bstep hb95 hq98)
                have hSlt : ∀ b, (fun b => b = ob) b → b < w99.heap.size := fun b e => e ▸ ho101.lt
                refine WC.tail1 (S := ((fun b => b = ob))) [(true, .val (.slice ((some ⟨ob, 0, none⟩)) ((2 + 4 * n)) ((2 + 4 * n)))), (true, .val (.int .i64 ((((2 + 4 * f + 2 * 0) : Nat) : Int)))), (true, .val (.slice ((some ⟨ob, 0, none⟩)) ((2 + 4 * n)) ((2 + 4 * n)))), (true, .val (.int .i64 ((((2 + 4 * f + 2 * 0) : Nat) : Int)))), (true, .val (.pointer (some ⟨ob, 0 + ((2 + 4 * f + 2 * 0)), none⟩))), (true, .val (.int .i64 (((rG (lget l i) (gset (outG n l i) 0 (outG n l i 0 + 1)) f) ((2 + 4 * f + 2 * 0)))))), (true, .val (.slice a l.length c)), (true, .val (.int .i64 (((i : Nat) : Int)))), (true, .val (.pointer (some ⟨b14, o15 + i * 5, none⟩))), (true, .val (.pointer (some ⟨b14, o15 + i * 5 + 1, none⟩))), (true, .val (.agg #[.int .i64 ((lget l i).l.f), .slice ((A16 i)) ((lget l i).l.args.length) ((C17 i))])), (true, .val (.int .i64 (((f : Nat) : Int)))), (true, .val (.int .i64 (((((lget l i).l.often f) : Nat) : Int)))), (true, .val (.int .i64 ((((rG (lget l i) (gset (outG n l i) 0 (outG n l i 0 + 1)) f) ((2 + 4 * f + 2 * 0))) + ((((lget l i).l.often f) : Nat) : Int))))), (true, .val (.pointer (some ⟨ob, 0 + ((2 + 4 * f + 2 * 0)), none⟩))), (true, .val undef)] [(0, .int .i64 (((n : Nat) : Int))), (1, .slice a l.length c), (4, .slice none 0 0), (5, .slice ((some ⟨ob, 0, none⟩)) ((2 + 4 * n)) ((2 + 4 * n))), (6, .int .i64 (((i : Nat) : Int))), (7, .int .i64 0), (8, .int .i64 (((f : Nat) : Int))), (9, .int .i64 ((((2 + 4 * f + 2 * 0) : Nat) : Int))), (15, .bool (((decide ((((n : Nat) : Int) : Int) < (0 : Int))) || (decide ((96 : Int) < (((n : Nat) : Int) : Int)))))), (23, .bool ((decide ((((i : Nat) : Int) : Int) < (((l.length : Nat) : Int) : Int))))), (30, .bool ((lget l i).neg)), (39, .bool ((decide ((((f : Nat) : Int) : Int) < (((n : Nat) : Int) : Int))))), (54, .bool ((!(lget l i).l.isTrue)))] 15 (fun wz => IRow wz 3 ob (2 + 4 * n) (gset ((rG (lget l i) (gset (outG n l i) 0 (outG n l i 0 + 1)) f)) ((2 + 4 * f + 2 * 0)) ((((rG (lget l i) (gset (outG n l i) 0 (outG n l i 0 + 1)) f) ((2 + 4 * f + 2 * 0))) + ((((lget l i).l.often f) : Nat) : Int))))) (fun w w' hb h => h.below hb) ⟨rfl, rfl, rfl, rfl, rfl, rfl, rfl, rfl, rfl, rfl, rfl, rfl, rfl, trivial⟩ (by kernel_rfl) (by kernel_rfl) (by kernel_rfl) (by kernel_rfl) ?_ ?_
                · refine ⟨.inl ⟨rfl, true, .none rfl, (fun gg b h => by cases h), fun h w => optUndef h, fun zβ za zw zc => ?_⟩, ?_⟩
                  · exact wp_move rfl (zc.kn.ev rfl) ⟨_, rfl, Below.refl _ _, optDef zβ rfl⟩
                  refine ⟨.inl ⟨rfl, true, .none rfl, (fun gg b h => by cases h), fun h w => optUndef h, fun zβ za zw zc => ?_⟩, ?_⟩
                  · exact wp_move rfl (zc.kn.ev rfl) ⟨_, rfl, Below.refl _ _, optDef zβ rfl⟩
                  refine ⟨.inl ⟨rfl, true, .none rfl, (fun gg b h => by cases h), fun h w => optUndef h, fun zβ za zw zc => ?_⟩, ?_⟩
                  · exact wp_move rfl (zc.kn.ev rfl) ⟨_, rfl, Below.refl _ _, optDef zβ rfl⟩
                  refine ⟨.inl ⟨rfl, true, .none rfl, (fun gg b h => by cases h), fun h w => optUndef h, fun zβ za zw zc => ?_⟩, ?_⟩
                  · exact wp_move rfl (zc.kn.ev rfl) ⟨_, rfl, Below.refl _ _, optDef zβ rfl⟩
                  refine ⟨.inl ⟨rfl, true, .none rfl, (fun gg b h => by cases h), fun h w => optUndef h, fun zβ za zw zc => ?_⟩, ?_⟩
                  · exact ix_27 (k := (2 + 4 * f + 2 * 0)) rfl ((show za.eval (.tmp 57) = za.tmps.getD 57 undef from rfl).trans (optSVal (zc.dep 2 57 (by kernel_rfl) (by decide)) rfl rfl)) rfl ((show za.eval (.tmp 58) = za.tmps.getD 58 undef from rfl).trans (optSVal (zc.dep 3 58 (by kernel_rfl) (by decide)) rfl rfl)) (by first | omega | (simp; omega)) ⟨_, rfl, Below.refl _ _, optDef zβ rfl⟩
                  refine ⟨.inl ⟨rfl, true, .none rfl, (fun gg b h => by cases h), fun h w => optUndef h, fun zβ za zw zc => ?_⟩, ?_⟩
                  · exact ld_3 rfl ((show za.eval (.tmp 59) = za.tmps.getD 59 undef from rfl).trans (optSVal (zc.dep 4 59 (by kernel_rfl) (by decide)) rfl rfl)) (bkeeps (zc.early (by kernel_rfl)) _ _ (IRow.cellAt ho101 (by omega) (by omega))) ⟨_, rfl, Below.refl _ _, optDef zβ rfl⟩
                  refine ⟨.inl ⟨rfl, true, .none rfl, (fun gg b h => by cases h), fun h w => optUndef h, fun zβ za zw zc => ?_⟩, ?_⟩
                  · exact wp_move rfl (zc.kn.ev rfl) ⟨_, rfl, Below.refl _ _, optDef zβ rfl⟩
                  refine ⟨.inl ⟨rfl, true, .none rfl, (fun gg b h => by cases h), fun h w => optUndef h, fun zβ za zw zc => ?_⟩, ?_⟩
                  · exact wp_move rfl (zc.kn.ev rfl) ⟨_, rfl, Below.refl _ _, optDef zβ rfl⟩
                  refine ⟨.inl ⟨rfl, true, .none rfl, (fun gg b h => by cases h), fun h w => optUndef h, fun zβ za zw zc => ?_⟩, ?_⟩
                  · exact ix_23 (k := i) rfl ((show za.eval (.tmp 61) = za.tmps.getD 61 undef from rfl).trans (optSVal (zc.dep 6 61 (by kernel_rfl) (by decide)) rfl rfl)) (ha20 i (by first | omega | (simp; omega))) ((show za.eval (.tmp 62) = za.tmps.getD 62 undef from rfl).trans (optSVal (zc.dep 7 62 (by kernel_rfl) (by decide)) rfl rfl)) (by first | omega | (simp; omega)) ⟨_, rfl, Below.refl _ _, optDef zβ rfl⟩
                  refine ⟨.inl ⟨rfl, true, .none rfl, (fun gg b h => by cases h), fun h w => optUndef h, fun zβ za zw zc => ?_⟩, ?_⟩
                  · exact fld_34_1 rfl ((show za.eval (.tmp 63) = za.tmps.getD 63 undef from rfl).trans (optSVal (zc.dep 8 63 (by kernel_rfl) (by decide)) rfl rfl)) ⟨_, rfl, Below.refl _ _, optDef zβ rfl⟩
                  refine ⟨.inl ⟨rfl, true, .none rfl, (fun gg b h => by cases h), fun h w => optUndef h, fun zβ za zw zc => ?_⟩, ?_⟩
                  · exact ld_32 rfl ((show za.eval (.tmp 64) = za.tmps.getD 64 undef from rfl).trans (optSVal (zc.dep 9 64 (by kernel_rfl) (by decide)) rfl rfl)) (bkeeps (bstep hb102 (zc.early (by kernel_rfl))) _ _ (hc21 i (by first | omega | (simp; omega))).2.1) (bkeeps (bstep hb102 (zc.early (by kernel_rfl))) _ _ (hc21 i (by first | omega | (simp; omega))).2.2.1) ⟨_, rfl, Below.refl _ _, optDef zβ rfl⟩
                  refine ⟨.inl ⟨rfl, true, .none rfl, (fun gg b h => by cases h), fun h w => optUndef h, fun zβ za zw zc => ?_⟩, ?_⟩
                  · exact wp_move rfl (zc.kn.ev rfl) ⟨_, rfl, Below.refl _ _, optDef zβ rfl⟩
                  refine ⟨.inl ⟨rfl, true, .none rfl, (fun gg b h => by cases h), fun h w => optUndef h, fun zβ za zw zc => ?_⟩, ?_⟩
                  · exact wp_call (by kernel_rfl) rfl (hv2 ((show za.eval (.tmp 65) = za.tmps.getD 65 undef from rfl).trans (optSVal (zc.dep 10 65 (by kernel_rfl) (by decide)) rfl rfl)) ((show za.eval (.tmp 66) = za.tmps.getD 66 undef from rfl).trans (optSVal (zc.dep 11 66 (by kernel_rfl) (by decide)) rfl rfl))) (often_any f (by omega) ((lget l i).l) _ _ (hpl hil) (IsT.below (bstep hb102 (zc.early (by kernel_rfl))) (InT.isT (hc21 i (by first | omega | (simp; omega))).2.2.2.2.2.1))) (fun v w' h => ⟨v, rfl, h.2, optDef zβ h.1⟩)
                  refine ⟨.inl ⟨rfl, true, .none rfl, (fun gg b h => by cases h), fun h w => optUndef h, fun zβ za zw zc => ?_⟩, ?_⟩
                  · exact addb_3 rfl ((show za.eval (.tmp 60) = za.tmps.getD 60 undef from rfl).trans (optSVal (zc.dep 5 60 (by kernel_rfl) (by decide)) rfl rfl)) ((show za.eval (.tmp 67) = za.tmps.getD 67 undef from rfl).trans (optSVal (zc.dep 12 67 (by kernel_rfl) (by decide)) rfl rfl)) (wrap_eq rfl (by have z := hf0 (2 + 4 * f + 2 * 0); omega) (by have z := hf1 (2 + 4 * f + 2 * 0) (by unfold evn; omega); have z2 := T.often_le (lget l i).l f; have z3 := hpl hil; omega)) ⟨_, rfl, Below.refl _ _, optDef zβ rfl⟩
                  refine ⟨.inl ⟨rfl, true, .none rfl, (fun gg b h => by cases h), fun h w => optUndef h, fun zβ za zw zc => ?_⟩, ?_⟩
                  · exact ix_27 (k := (2 + 4 * f + 2 * 0)) rfl ((show za.eval (.tmp 55) = za.tmps.getD 55 undef from rfl).trans (optSVal (zc.dep 0 55 (by kernel_rfl) (by decide)) rfl rfl)) rfl ((show za.eval (.tmp 56) = za.tmps.getD 56 undef from rfl).trans (optSVal (zc.dep 1 56 (by kernel_rfl) (by decide)) rfl rfl)) (by first | omega | (simp; omega)) ⟨_, rfl, Below.refl _ _, optDef zβ rfl⟩
                  refine ⟨.inr ⟨rfl, rfl, fun za zw zc => ?_⟩, ?_⟩
                  · have zm := ho101.below zc.below
                    exact st_3 rfl ((show za.eval (.tmp 69) = za.tmps.getD 69 undef from rfl).trans (optSVal (zc.dep 14 69 (by kernel_rfl) (by decide)) rfl rfl)) ((show za.eval (.tmp 68) = za.tmps.getD 68 undef from rfl).trans (optSVal (zc.dep 13 68 (by kernel_rfl) (by decide)) rfl rfl)) zm.blk (IRow.size zm (by omega)) (fun v => ⟨v, rfl, IRow.setAt zm _ (by omega) (by omega), .ofUpd (Upd.at_ _ _ _ _) rfl⟩)
                  exact trivial
                · intro za w104 zh hG105 hc106 zu
                  have hb107 := chg_below hb102 hc106 (fun b hb => (by (try dsimp only at *); omega))
                  clear zu
                  refine (show WE _ [(0, .int .i64 (((n : Nat) : Int))), (1, .slice a l.length c), (4, .slice none 0 0), (5, .slice ((some ⟨ob, 0, none⟩)) ((2 + 4 * n)) ((2 + 4 * n))), (6, .int .i64 (((i : Nat) : Int))), (7, .int .i64 0), (8, .int .i64 (((f : Nat) : Int))), (9, .int .i64 ((((2 + 4 * f + 2 * 0) : Nat) : Int))), (15, .bool (((decide ((((n : Nat) : Int) : Int) < (0 : Int))) || (decide ((96 : Int) < (((n : Nat) : Int) : Int)))))), (23, .bool ((decide ((((i : Nat) : Int) : Int) < (((l.length : Nat) : Int) : Int))))), (30, .bool ((lget l i).neg)), (39, .bool ((decide ((((f : Nat) : Int) : Int) < (((n : Nat) : Int) : Int))))), (54, .bool ((!(lget l i).l.isTrue)))] w104 _ .normal from ?_) za (zh.sub ⟨rfl, rfl, rfl, rfl, rfl, rfl, rfl, rfl, rfl, rfl, rfl, rfl, rfl, trivial⟩)
                  refine WE.next ?_
                  have hSlt : ∀ b, (fun b => b = ob) b → b < w104.heap.size := fun b e => e ▸ hG105.lt
                  refine WC.tail1 (S := ((fun b => b = ob))) [(true, .val (.slice ((some ⟨ob, 0, none⟩)) ((2 + 4 * n)) ((2 + 4 * n)))), (true, .val (.int .i64 ((((2 + 4 * f + 2 * 0) : Nat) : Int)))), (true, .val (.int .i64 (((((2 + 4 * f + 2 * 0) + 1) : Nat) : Int)))), (true, .val (.slice ((some ⟨ob, 0, none⟩)) ((2 + 4 * n)) ((2 + 4 * n)))), (true, .val (.int .i64 ((((2 + 4 * f + 2 * 0) : Nat) : Int)))), (true, .val (.int .i64 (((((2 + 4 * f + 2 * 0) + 1) : Nat) : Int)))), (true, .val (.pointer (some ⟨ob, 0 + (((2 + 4 * f + 2 * 0) + 1)), none⟩))), (true, .val (.int .i64 (((gset ((rG (lget l i) (gset (outG n l i) 0 (outG n l i 0 + 1)) f)) ((2 + 4 * f + 2 * 0)) ((((rG (lget l i) (gset (outG n l i) 0 (outG n l i 0 + 1)) f) ((2 + 4 * f + 2 * 0))) + ((((lget l i).l.often f) : Nat) : Int)))) (((2 + 4 * f + 2 * 0) + 1)))))), (true, .val (.slice a l.length c)), (true, .val (.int .i64 (((i : Nat) : Int)))), (true, .val (.pointer (some ⟨b14, o15 + i * 5, none⟩))), (true, .val (.pointer (some ⟨b14, o15 + i * 5 + 1, none⟩))), (true, .val (.agg #[.int .i64 ((lget l i).l.f), .slice ((A16 i)) ((lget l i).l.args.length) ((C17 i))])), (true, .val (.int .i64 (((f : Nat) : Int)))), (true, .val (.int .i64 (((((lget l i).l.deep f 1) : Nat) : Int)))), (true, .val (.int .i64 ((max (((gset ((rG (lget l i) (gset (outG n l i) 0 (outG n l i 0 + 1)) f)) ((2 + 4 * f + 2 * 0)) ((((rG (lget l i) (gset (outG n l i) 0 (outG n l i 0 + 1)) f) ((2 + 4 * f + 2 * 0))) + ((((lget l i).l.often f) : Nat) : Int)))) (((2 + 4 * f + 2 * 0) + 1)))) (((((lget l i).l.deep f 1) : Nat) : Int)))))), (true, .val (.pointer (some ⟨ob, 0 + (((2 + 4 * f + 2 * 0) + 1)), none⟩))), (true, .val undef)] [(0, .int .i64 (((n : Nat) : Int))), (1, .slice a l.length c), (4, .slice none 0 0), (5, .slice ((some ⟨ob, 0, none⟩)) ((2 + 4 * n)) ((2 + 4 * n))), (6, .int .i64 (((i : Nat) : Int))), (7, .int .i64 0), (8, .int .i64 (((f : Nat) : Int))), (9, .int .i64 ((((2 + 4 * f + 2 * 0) : Nat) : Int))), (15, .bool (((decide ((((n : Nat) : Int) : Int) < (0 : Int))) || (decide ((96 : Int) < (((n : Nat) : Int) : Int)))))), (23, .bool ((decide ((((i : Nat) : Int) : Int) < (((l.length : Nat) : Int) : Int))))), (30, .bool ((lget l i).neg)), (39, .bool ((decide ((((f : Nat) : Int) : Int) < (((n : Nat) : Int) : Int))))), (54, .bool ((!(lget l i).l.isTrue)))] 17 (fun wz => IRow wz 3 ob (2 + 4 * n) (gset ((gset ((rG (lget l i) (gset (outG n l i) 0 (outG n l i 0 + 1)) f)) ((2 + 4 * f + 2 * 0)) ((((rG (lget l i) (gset (outG n l i) 0 (outG n l i 0 + 1)) f) ((2 + 4 * f + 2 * 0))) + ((((lget l i).l.often f) : Nat) : Int))))) (((2 + 4 * f + 2 * 0) + 1)) ((max (((gset ((rG (lget l i) (gset (outG n l i) 0 (outG n l i 0 + 1)) f)) ((2 + 4 * f + 2 * 0)) ((((rG (lget l i) (gset (outG n l i) 0 (outG n l i 0 + 1)) f) ((2 + 4 * f + 2 * 0))) + ((((lget l i).l.often f) : Nat) : Int)))) (((2 + 4 * f + 2 * 0) + 1)))) (((((lget l i).l.deep f 1) : Nat) : Int)))))) (fun w w' hb h => h.below hb) ⟨rfl, rfl, rfl, rfl, rfl, rfl, rfl, rfl, rfl, rfl, rfl, rfl, rfl, trivial⟩ (by kernel_rfl) (by kernel_rfl) (by kernel_rfl) (by kernel_rfl) ?_ ?_
                  · refine ⟨.inl ⟨rfl, true, .none rfl, (fun gg b h => by cases h), fun h w => optUndef h, fun zβ za zw zc => ?_⟩, ?_⟩
                    · exact wp_move rfl (zc.kn.ev rfl) ⟨_, rfl, Below.refl _ _, optDef zβ rfl⟩
                    refine ⟨.inl ⟨rfl, true, .none rfl, (fun gg b h => by cases h), fun h w => optUndef h, fun zβ za zw zc => ?_⟩, ?_⟩
                    · exact wp_move rfl (zc.kn.ev rfl) ⟨_, rfl, Below.refl _ _, optDef zβ rfl⟩
                    refine ⟨.inl ⟨rfl, true, .none rfl, (fun gg b h => by cases h), fun h w => optUndef h, fun zβ za zw zc => ?_⟩, ?_⟩
                    · exact addb_3 rfl ((show za.eval (.tmp 71) = za.tmps.getD 71 undef from rfl).trans (optSVal (zc.dep 1 71 (by kernel_rfl) (by decide)) rfl rfl)) (zc.kn.ev rfl) (wrap_eq (by omega) (by omega) (by omega)) ⟨_, rfl, Below.refl _ _, optDef zβ rfl⟩
                    refine ⟨.inl ⟨rfl, true, .none rfl, (fun gg b h => by cases h), fun h w => optUndef h, fun zβ za zw zc => ?_⟩, ?_⟩
                    · exact wp_move rfl (zc.kn.ev rfl) ⟨_, rfl, Below.refl _ _, optDef zβ rfl⟩
                    refine ⟨.inl ⟨rfl, true, .none rfl, (fun gg b h => by cases h), fun h w => optUndef h, fun zβ za zw zc => ?_⟩, ?_⟩
                    · exact wp_move rfl (zc.kn.ev rfl) ⟨_, rfl, Below.refl _ _, optDef zβ rfl⟩
                    refine ⟨.inl ⟨rfl, true, .none rfl, (fun gg b h => by cases h), fun h w => optUndef h, fun zβ za zw zc => ?_⟩, ?_⟩
                    · exact addb_3 rfl ((show za.eval (.tmp 74) = za.tmps.getD 74 undef from rfl).trans (optSVal (zc.dep 4 74 (by kernel_rfl) (by decide)) rfl rfl)) (zc.kn.ev rfl) (wrap_eq (by omega) (by omega) (by omega)) ⟨_, rfl, Below.refl _ _, optDef zβ rfl⟩
                    refine ⟨.inl ⟨rfl, true, .none rfl, (fun gg b h => by cases h), fun h w => optUndef h, fun zβ za zw zc => ?_⟩, ?_⟩
                    · exact ix_27 (k := ((2 + 4 * f + 2 * 0) + 1)) rfl ((show za.eval (.tmp 73) = za.tmps.getD 73 undef from rfl).trans (optSVal (zc.dep 3 73 (by kernel_rfl) (by decide)) rfl rfl)) rfl ((show za.eval (.tmp 75) = za.tmps.getD 75 undef from rfl).trans (optSVal (zc.dep 5 75 (by kernel_rfl) (by decide)) rfl rfl)) (by first | omega | (simp; omega)) ⟨_, rfl, Below.refl _ _, optDef zβ rfl⟩
                    refine ⟨.inl ⟨rfl, true, .none rfl, (fun gg b h => by cases h), fun h w => optUndef h, fun zβ za zw zc => ?_⟩, ?_⟩
                    · exact ld_3 rfl ((show za.eval (.tmp 76) = za.tmps.getD 76 undef from rfl).trans (optSVal (zc.dep 6 76 (by kernel_rfl) (by decide)) rfl rfl)) (bkeeps (zc.early (by kernel_rfl)) _ _ (IRow.cellAt hG105 (by omega) (by omega))) ⟨_, rfl, Below.refl _ _, optDef zβ rfl⟩
                    refine ⟨.inl ⟨rfl, true, .none rfl, (fun gg b h => by cases h), fun h w => optUndef h, fun zβ za zw zc => ?_⟩, ?_⟩
                    · exact wp_move rfl (zc.kn.ev rfl) ⟨_, rfl, Below.refl _ _, optDef zβ rfl⟩
                    refine ⟨.inl ⟨rfl, true, .none rfl, (fun gg b h => by cases h), fun h w => optUndef h, fun zβ za zw zc => ?_⟩, ?_⟩
                    · exact wp_move rfl (zc.kn.ev rfl) ⟨_, rfl, Below.refl _ _, optDef zβ rfl⟩
                    refine ⟨.inl ⟨rfl, true, .none rfl, (fun gg b h => by cases h), fun h w => optUndef h, fun zβ za zw zc => ?_⟩, ?_⟩
                    · exact ix_23 (k := i) rfl ((show za.eval (.tmp 78) = za.tmps.getD 78 undef from rfl).trans (optSVal (zc.dep 8 78 (by kernel_rfl) (by decide)) rfl rfl)) (ha20 i (by first | omega | (simp; omega))) ((show za.eval (.tmp 79) = za.tmps.getD 79 undef from rfl).trans (optSVal (zc.dep 9 79 (by kernel_rfl) (by decide)) rfl rfl)) (by first | omega | (simp; omega)) ⟨_, rfl, Below.refl _ _, optDef zβ rfl⟩
                    refine ⟨.inl ⟨rfl, true, .none rfl, (fun gg b h => by cases h), fun h w => optUndef h, fun zβ za zw zc => ?_⟩, ?_⟩
                    · exact fld_34_1 rfl ((show za.eval (.tmp 80) = za.tmps.getD 80 undef from rfl).trans (optSVal (zc.dep 10 80 (by kernel_rfl) (by decide)) rfl rfl)) ⟨_, rfl, Below.refl _ _, optDef zβ rfl⟩
                    refine ⟨.inl ⟨rfl, true, .none rfl, (fun gg b h => by cases h), fun h w => optUndef h, fun zβ za zw zc => ?_⟩, ?_⟩
                    · exact ld_32 rfl ((show za.eval (.tmp 81) = za.tmps.getD 81 undef from rfl).trans (optSVal (zc.dep 11 81 (by kernel_rfl) (by decide)) rfl rfl)) (bkeeps (bstep hb107 (zc.early (by kernel_rfl))) _ _ (hc21 i (by first | omega | (simp; omega))).2.1) (bkeeps (bstep hb107 (zc.early (by kernel_rfl))) _ _ (hc21 i (by first | omega | (simp; omega))).2.2.1) ⟨_, rfl, Below.refl _ _, optDef zβ rfl⟩
                    refine ⟨.inl ⟨rfl, true, .none rfl, (fun gg b h => by cases h), fun h w => optUndef h, fun zβ za zw zc => ?_⟩, ?_⟩
                    · exact wp_move rfl (zc.kn.ev rfl) ⟨_, rfl, Below.refl _ _, optDef zβ rfl⟩
                    refine ⟨.inl ⟨rfl, true, .none rfl, (fun gg b h => by cases h), fun h w => optUndef h, fun zβ za zw zc => ?_⟩, ?_⟩
                    · exact wp_call (by kernel_rfl) rfl (hv3 ((show za.eval (.tmp 82) = za.tmps.getD 82 undef from rfl).trans (optSVal (zc.dep 12 82 (by kernel_rfl) (by decide)) rfl rfl)) ((show za.eval (.tmp 83) = za.tmps.getD 83 undef from rfl).trans (optSVal (zc.dep 13 83 (by kernel_rfl) (by decide)) rfl rfl)) (zc.kn.ev rfl)) (deep_any f (by omega) ((lget l i).l) 1 _ _ (by have z := (hpl hil); omega) (hpl hil) (IsT.below (bstep hb107 (zc.early (by kernel_rfl))) (InT.isT (hc21 i (by first | omega | (simp; omega))).2.2.2.2.2.1))) (fun v w' h => ⟨v, rfl, h.2, optDef zβ h.1⟩)
                    refine ⟨.inl ⟨rfl, true, .none rfl, (fun gg b h => by cases h), fun h w => optUndef h, fun zβ za zw zc => ?_⟩, ?_⟩
                    · exact wp_max3 rfl ((show za.eval (.tmp 77) = za.tmps.getD 77 undef from rfl).trans (optSVal (zc.dep 7 77 (by kernel_rfl) (by decide)) rfl rfl)) ((show za.eval (.tmp 84) = za.tmps.getD 84 undef from rfl).trans (optSVal (zc.dep 14 84 (by kernel_rfl) (by decide)) rfl rfl)) rfl ⟨_, rfl, Below.refl _ _, optDef zβ rfl⟩
                    refine ⟨.inl ⟨rfl, true, .none rfl, (fun gg b h => by cases h), fun h w => optUndef h, fun zβ za zw zc => ?_⟩, ?_⟩
                    · exact ix_27 (k := ((2 + 4 * f + 2 * 0) + 1)) rfl ((show za.eval (.tmp 70) = za.tmps.getD 70 undef from rfl).trans (optSVal (zc.dep 0 70 (by kernel_rfl) (by decide)) rfl rfl)) rfl ((show za.eval (.tmp 72) = za.tmps.getD 72 undef from rfl).trans (optSVal (zc.dep 2 72 (by kernel_rfl) (by decide)) rfl rfl)) (by first | omega | (simp; omega)) ⟨_, rfl, Below.refl _ _, optDef zβ rfl⟩
                    refine ⟨.inr ⟨rfl, rfl, fun za zw zc => ?_⟩, ?_⟩
                    · have zm := hG105.below zc.below
                      exact st_3 rfl ((show za.eval (.tmp 86) = za.tmps.getD 86 undef from rfl).trans (optSVal (zc.dep 16 86 (by kernel_rfl) (by decide)) rfl rfl)) ((show za.eval (.tmp 85) = za.tmps.getD 85 undef from rfl).trans (optSVal (zc.dep 15 85 (by kernel_rfl) (by decide)) rfl rfl)) zm.blk (IRow.size zm (by omega)) (fun v => ⟨v, rfl, IRow.setAt zm _ (by omega) (by omega), .ofUpd (Upd.at_ _ _ _ _) rfl⟩)
                    exact trivial
                  · intro za w109 zh hG110 hc111 zu
                    have hb112 := chg_below hb107 hc111 (fun b hb => (by (try dsimp only at *); omega))
                    have hM113 := IRow.congr hG110 (refS_not (way := 0) (f := f) htL).symm
                    clear zu
                    refine (show WE _ [(0, .int .i64 (((n : Nat) : Int))), (1, .slice a l.length c), (4, .slice none 0 0), (5, .slice ((some ⟨ob, 0, none⟩)) ((2 + 4 * n)) ((2 + 4 * n))), (6, .int .i64 (((i : Nat) : Int))), (7, .int .i64 0), (8, .int .i64 (((f : Nat) : Int))), (9, .int .i64 ((((2 + 4 * f + 2 * 0) : Nat) : Int))), (15, .bool (((decide ((((n : Nat) : Int) : Int) < (0 : Int))) || (decide ((96 : Int) < (((n : Nat) : Int) : Int)))))), (23, .bool ((decide ((((i : Nat) : Int) : Int) < (((l.length : Nat) : Int) : Int))))), (30, .bool ((lget l i).neg)), (39, .bool ((decide ((((f : Nat) : Int) : Int) < (((n : Nat) : Int) : Int))))), (54, .bool ((!(lget l i).l.isTrue)))] w109 _ .normal from ?_) za (zh.sub ⟨rfl, rfl, rfl, rfl, rfl, rfl, rfl, rfl, rfl, rfl, rfl, rfl, rfl, trivial⟩)
                    refine WE.next ?_
                    refine WC.seq ?_
                    refine WC.region ?_
                    refine WL.val (.slice a l.length c) rfl rfl rfl (fun za zC zh zk => wp_move rfl (zh.ev rfl) zk) ?_
                    refine WL.val (.int .i64 (((i : Nat) : Int))) rfl rfl rfl (fun za zC zh zk => wp_move rfl (zh.ev rfl) zk) ?_
                    refine WL.val (.pointer (some ⟨b14, o15 + i * 5, none⟩)) rfl rfl rfl (fun za zC zh zk => ix_23 (k := i) rfl (zh.ev rfl) (ha20 i (by first | omega | (simp; omega))) (zh.ev rfl) (by first | omega | (simp; omega)) zk) ?_
                    refine WL.val (.pointer (some ⟨b14, o15 + i * 5 + 3, none⟩)) rfl rfl rfl (fun za zC zh zk => fld_34_2 rfl (zh.ev rfl) zk) ?_
                    refine WL.val (.agg #[.int .i64 ((lget l i).r.f), .slice ((A18 i)) ((lget l i).r.args.length) ((C19 i))]) rfl rfl rfl (fun za zC zh zk => ld_32 rfl (zh.ev rfl) (bkeeps hb112 _ _ (hc21 i (by first | omega | (simp; omega))).2.2.2.1) (bkeeps hb112 _ _ (hc21 i (by first | omega | (simp; omega))).2.2.2.2.1) zk) ?_
                    refine WL.call rfl rfl rfl (fun za zh zC => wp_call (by kernel_rfl) rfl (hv1 (zh.ev rfl))) (rtrue_any ((lget l i).r) _ _ (IsT.below hb112 (InT.isT (hc21 i (by first | omega | (simp; omega))).2.2.2.2.2.2))) ?_
                    rintro _ w115 ⟨rfl, hq114⟩
                    refine WL.val (.bool ((!(lget l i).r.isTrue))) rfl rfl rfl (fun za zC zh zk => wp_not rfl (zh.ev rfl) zk) ?_
                    refine WL.nil (WE.sub (K' := [(0, .int .i64 (((n : Nat) : Int))), (1, .slice a l.length c), (4, .slice none 0 0), (5, .slice ((some ⟨ob, 0, none⟩)) ((2 + 4 * n)) ((2 + 4 * n))), (6, .int .i64 (((i : Nat) : Int))), (7, .int .i64 0), (8, .int .i64 (((f : Nat) : Int))), (9, .int .i64 ((((2 + 4 * f + 2 * 0) : Nat) : Int))), (15, .bool (((decide ((((n : Nat) : Int) : Int) < (0 : Int))) || (decide ((96 : Int) < (((n : Nat) : Int) : Int)))))), (23, .bool ((decide ((((i : Nat) : Int) : Int) < (((l.length : Nat) : Int) : Int))))), (30, .bool ((lget l i).neg)), (39, .bool ((decide ((((f : Nat) : Int) : Int) < (((n : Nat) : Int) : Int))))), (54, .bool ((!(lget l i).l.isTrue))), (93, .bool ((!(lget l i).r.isTrue)))]) ⟨rfl, rfl, rfl, rfl, rfl, rfl, rfl, rfl, rfl, rfl, rfl, rfl, rfl, rfl, trivial⟩ ?_)
                    refine WE.next ?_
                    refine WC.cond rfl (fun h116 => ?_) (fun h116 => ?_)
                    · have h116 : ¬ ((lget l i).r.isTrue = true) := by simpa using h116
                      have htR : ¬ (lget l i).r.isTrue = true := by simpa using h116
                      refine WC.seq ?_
                      have ho117 := hM113.below hq114
                      have hb118 : Below w.heap.size w w115 := (bstep hb112 hq114)
                      have hSlt : ∀ b, (fun b => b = ob) b → b < w115.heap.size := fun b e => e ▸ ho117.lt
                      refine WC.tail1 (S := ((fun b => b = ob))) [(true, .val (.slice ((some ⟨ob, 0, none⟩)) ((2 + 4 * n)) ((2 + 4 * n)))), (true, .val (.int .i64 ((((2 + 4 * f + 2 * 0) : Nat) : Int)))), (true, .val (.slice ((some ⟨ob, 0, none⟩)) ((2 + 4 * n)) ((2 + 4 * n)))), (true, .val (.int .i64 ((((2 + 4 * f + 2 * 0) : Nat) : Int)))), (true, .val (.pointer (some ⟨ob, 0 + ((2 + 4 * f + 2 * 0)), none⟩))), (true, .val (.int .i64 (((refS 0 f (lget l i).l (rG (lget l i) (gset (outG n l i) 0 (outG n l i 0 + 1)) f)) ((2 + 4 * f + 2 * 0)))))), (true, .val (.slice a l.length c)), (true, .val (.int .i64 (((i : Nat) : Int)))), (true, .val (.pointer (some ⟨b14, o15 + i * 5, none⟩))), (true, .val (.pointer (some ⟨b14, o15 + i * 5 + 3, none⟩))), (true, .val (.agg #[.int .i64 ((lget l i).r.f), .slice ((A18 i)) ((lget l i).r.args.length) ((C19 i))])), (true, .val (.int .i64 (((f : Nat) : Int)))), (true, .val (.int .i64 (((((lget l i).r.often f) : Nat) : Int)))), (true, .val (.int .i64 ((((refS 0 f (lget l i).l (rG (lget l i) (gset (outG n l i) 0 (outG n l i 0 + 1)) f)) ((2 + 4 * f + 2 * 0))) + ((((lget l i).r.often f) : Nat) : Int))))), (true, .val (.pointer (some ⟨ob, 0 + ((2 + 4 * f + 2 * 0)), none⟩))), (true, .val undef)] [(0, .int .i64 (((n : Nat) : Int))), (1, .slice a l.length c), (4, .slice none 0 0), (5, .slice ((some ⟨ob, 0, none⟩)) ((2 + 4 * n)) ((2 + 4 * n))), (6, .int .i64 (((i : Nat) : Int))), (7, .int .i64 0), (8, .int .i64 (((f : Nat) : Int))), (9, .int .i64 ((((2 + 4 * f + 2 * 0) : Nat) : Int))), (15, .bool (((decide ((((n : Nat) : Int) : Int) < (0 : Int))) || (decide ((96 : Int) < (((n : Nat) : Int) : Int)))))), (23, .bool ((decide ((((i : Nat) : Int) : Int) < (((l.length : Nat) : Int) : Int))))), (30, .bool ((lget l i).neg)), (39, .bool ((decide ((((f : Nat) : Int) : Int) < (((n : Nat) : Int) : Int))))), (54, .bool ((!(lget l i).l.isTrue))), (93, .bool ((!(lget l i).r.isTrue)))] 15 (fun wz => IRow wz 3 ob (2 + 4 * n) (gset ((refS 0 f (lget l i).l (rG (lget l i) (gset (outG n l i) 0 (outG n l i 0 + 1)) f))) ((2 + 4 * f + 2 * 0)) ((((refS 0 f (lget l i).l (rG (lget l i) (gset (outG n l i) 0 (outG n l i 0 + 1)) f)) ((2 + 4 * f + 2 * 0))) + ((((lget l i).r.often f) : Nat) : Int))))) (fun w w' hb h => h.below hb) ⟨rfl, rfl, rfl, rfl, rfl, rfl, rfl, rfl, rfl, rfl, rfl, rfl, rfl, rfl, trivial⟩ (by kernel_rfl) (by kernel_rfl) (by kernel_rfl) (by kernel_rfl) ?_ ?_
                      · refine ⟨.inl ⟨rfl, true, .none rfl, (fun gg b h => by cases h), fun h w => optUndef h, fun zβ za zw zc => ?_⟩, ?_⟩
                        · exact wp_move rfl (zc.kn.ev rfl) ⟨_, rfl, Below.refl _ _, optDef zβ rfl⟩
                        refine ⟨.inl ⟨rfl, true, .none rfl, (fun gg b h => by cases h), fun h w => optUndef h, fun zβ za zw zc => ?_⟩, ?_⟩
                        · exact wp_move rfl (zc.kn.ev rfl) ⟨_, rfl, Below.refl _ _, optDef zβ rfl⟩
                        refine ⟨.inl ⟨rfl, true, .none rfl, (fun gg b h => by cases h), fun h w => optUndef h, fun zβ za zw zc => ?_⟩, ?_⟩
                        · exact wp_move rfl (zc.kn.ev rfl) ⟨_, rfl, Below.refl _ _, optDef zβ rfl⟩
                        refine ⟨.inl ⟨rfl, true, .none rfl, (fun gg b h => by cases h), fun h w => optUndef h, fun zβ za zw zc => ?_⟩, ?_⟩
                        · exact wp_move rfl (zc.kn.ev rfl) ⟨_, rfl, Below.refl _ _, optDef zβ rfl⟩
                        refine ⟨.inl ⟨rfl, true, .none rfl, (fun gg b h => by cases h), fun h w => optUndef h, fun zβ za zw zc => ?_⟩, ?_⟩
                        · exact ix_27 (k := (2 + 4 * f + 2 * 0)) rfl ((show za.eval (.tmp 96) = za.tmps.getD 96 undef from rfl).trans (optSVal (zc.dep 2 96 (by kernel_rfl) (by decide)) rfl rfl)) rfl ((show za.eval (.tmp 97) = za.tmps.getD 97 undef from rfl).trans (optSVal (zc.dep 3 97 (by kernel_rfl) (by decide)) rfl rfl)) (by first | omega | (simp; omega)) ⟨_, rfl, Below.refl _ _, optDef zβ rfl⟩
                        refine ⟨.inl ⟨rfl, true, .none rfl, (fun gg b h => by cases h), fun h w => optUndef h, fun zβ za zw zc => ?_⟩, ?_⟩
                        · exact ld_3 rfl ((show za.eval (.tmp 98) = za.tmps.getD 98 undef from rfl).trans (optSVal (zc.dep 4 98 (by kernel_rfl) (by decide)) rfl rfl)) (bkeeps (zc.early (by kernel_rfl)) _ _ (IRow.cellAt ho117 (by omega) (by omega))) ⟨_, rfl, Below.refl _ _, optDef zβ rfl⟩
                        refine ⟨.inl ⟨rfl, true, .none rfl, (fun gg b h => by cases h), fun h w => optUndef h, fun zβ za zw zc => ?_⟩, ?_⟩
                        · exact wp_move rfl (zc.kn.ev rfl) ⟨_, rfl, Below.refl _ _, optDef zβ rfl⟩
                        refine ⟨.inl ⟨rfl, true, .none rfl, (fun gg b h => by cases h), fun h w => optUndef h, fun zβ za zw zc => ?_⟩, ?_⟩
                        · exact wp_move rfl (zc.kn.ev rfl) ⟨_, rfl, Below.refl _ _, optDef zβ rfl⟩
                        refine ⟨.inl ⟨rfl, true, .none rfl, (fun gg b h => by cases h), fun h w => optUndef h, fun zβ za zw zc => ?_⟩, ?_⟩
                        · exact ix_23 (k := i) rfl ((show za.eval (.tmp 100) = za.tmps.getD 100 undef from rfl).trans (optSVal (zc.dep 6 100 (by kernel_rfl) (by decide)) rfl rfl)) (ha20 i (by first | omega | (simp; omega))) ((show za.eval (.tmp 101) = za.tmps.getD 101 undef from rfl).trans (optSVal (zc.dep 7 101 (by kernel_rfl) (by decide)) rfl rfl)) (by first | omega | (simp; omega)) ⟨_, rfl, Below.refl _ _, optDef zβ rfl⟩
                        refine ⟨.inl ⟨rfl, true, .none rfl, (fun gg b h => by cases h), fun h w => optUndef h, fun zβ za zw zc => ?_⟩, ?_⟩
                        · exact fld_34_2 rfl ((show za.eval (.tmp 102) = za.tmps.getD 102 undef from rfl).trans (optSVal (zc.dep 8 102 (by kernel_rfl) (by decide)) rfl rfl)) ⟨_, rfl, Below.refl _ _, optDef zβ rfl⟩
                        refine ⟨.inl ⟨rfl, true, .none rfl, (fun gg b h => by cases h), fun h w => optUndef h, fun zβ za zw zc => ?_⟩, ?_⟩
                        · exact ld_32 rfl ((show za.eval (.tmp 103) = za.tmps.getD 103 undef from rfl).trans (optSVal (zc.dep 9 103 (by kernel_rfl) (by decide)) rfl rfl)) (bkeeps (bstep hb118 (zc.early (by kernel_rfl))) _ _ (hc21 i (by first | omega | (simp; omega))).2.2.2.1) (bkeeps (bstep hb118 (zc.early (by kernel_rfl))) _ _ (hc21 i (by first | omega | (simp; omega))).2.2.2.2.1) ⟨_, rfl, Below.refl _ _, optDef zβ rfl⟩
                        refine ⟨.inl ⟨rfl, true, .none rfl, (fun gg b h => by cases h), fun h w => optUndef h, fun zβ za zw zc => ?_⟩, ?_⟩
                        · exact wp_move rfl (zc.kn.ev rfl) ⟨_, rfl, Below.refl _ _, optDef zβ rfl⟩
                        refine ⟨.inl ⟨rfl, true, .none rfl, (fun gg b h => by cases h), fun h w => optUndef h, fun zβ za zw zc => ?_⟩, ?_⟩
                        · exact wp_call (by kernel_rfl) rfl (hv2 ((show za.eval (.tmp 104) = za.tmps.getD 104 undef from rfl).trans (optSVal (zc.dep 10 104 (by kernel_rfl) (by decide)) rfl rfl)) ((show za.eval (.tmp 105) = za.tmps.getD 105 undef from rfl).trans (optSVal (zc.dep 11 105 (by kernel_rfl) (by decide)) rfl rfl))) (often_any f (by omega) ((lget l i).r) _ _ (hpr hil) (IsT.below (bstep hb118 (zc.early (by kernel_rfl))) (InT.isT (hc21 i (by first | omega | (simp; omega))).2.2.2.2.2.2))) (fun v w' h => ⟨v, rfl, h.2, optDef zβ h.1⟩)
                        refine ⟨.inl ⟨rfl, true, .none rfl, (fun gg b h => by cases h), fun h w => optUndef h, fun zβ za zw zc => ?_⟩, ?_⟩
                        · exact addb_3 rfl ((show za.eval (.tmp 99) = za.tmps.getD 99 undef from rfl).trans (optSVal (zc.dep 5 99 (by kernel_rfl) (by decide)) rfl rfl)) ((show za.eval (.tmp 106) = za.tmps.getD 106 undef from rfl).trans (optSVal (zc.dep 12 106 (by kernel_rfl) (by decide)) rfl rfl)) (wrap_eq rfl (by have z := hL0 (2 + 4 * f + 2 * 0); omega) (by have z := hL1 (2 + 4 * f + 2 * 0) (by unfold evn; omega); have z2 := T.often_le (lget l i).r f; have z3 := hpr hil; omega)) ⟨_, rfl, Below.refl _ _, optDef zβ rfl⟩
                        refine ⟨.inl ⟨rfl, true, .none rfl, (fun gg b h => by cases h), fun h w => optUndef h, fun zβ za zw zc => ?_⟩, ?_⟩
                        · exact ix_27 (k := (2 + 4 * f + 2 * 0)) rfl ((show za.eval (.tmp 94) = za.tmps.getD 94 undef from rfl).trans (optSVal (zc.dep 0 94 (by kernel_rfl) (by decide)) rfl rfl)) rfl ((show za.eval (.tmp 95) = za.tmps.getD 95 undef from rfl).trans (optSVal (zc.dep 1 95 (by kernel_rfl) (by decide)) rfl rfl)) (by first | omega | (simp; omega)) ⟨_, rfl, Below.refl _ _, optDef zβ rfl⟩
                        refine ⟨.inr ⟨rfl, rfl, fun za zw zc => ?_⟩, ?_⟩
                        · have zm := ho117.below zc.below
                          exact st_3 rfl ((show za.eval (.tmp 108) = za.tmps.getD 108 undef from rfl).trans (optSVal (zc.dep 14 108 (by kernel_rfl) (by decide)) rfl rfl)) ((show za.eval (.tmp 107) = za.tmps.getD 107 undef from rfl).trans (optSVal (zc.dep 13 107 (by kernel_rfl) (by decide)) rfl rfl)) zm.blk (IRow.size zm (by omega)) (fun v => ⟨v, rfl, IRow.setAt zm _ (by omega) (by omega), .ofUpd (Upd.at_ _ _ _ _) rfl⟩)
                        exact trivial
                      · intro za w120 zh hG121 hc122 zu
                        have hb123 := chg_below hb118 hc122 (fun b hb => (by (try dsimp only at *); omega))
                        clear zu
                        refine (show WE _ [(0, .int .i64 (((n : Nat) : Int))), (1, .slice a l.length c), (4, .slice none 0 0), (5, .slice ((some ⟨ob, 0, none⟩)) ((2 + 4 * n)) ((2 + 4 * n))), (6, .int .i64 (((i : Nat) : Int))), (7, .int .i64 0), (8, .int .i64 (((f : Nat) : Int))), (9, .int .i64 ((((2 + 4 * f + 2 * 0) : Nat) : Int))), (15, .bool (((decide ((((n : Nat) : Int) : Int) < (0 : Int))) || (decide ((96 : Int) < (((n : Nat) : Int) : Int)))))), (23, .bool ((decide ((((i : Nat) : Int) : Int) < (((l.length : Nat) : Int) : Int))))), (30, .bool ((lget l i).neg)), (39, .bool ((decide ((((f : Nat) : Int) : Int) < (((n : Nat) : Int) : Int))))), (54, .bool ((!(lget l i).l.isTrue))), (93, .bool ((!(lget l i).r.isTrue)))] w120 _ .normal from ?_) za (zh.sub ⟨rfl, rfl, rfl, rfl, rfl, rfl, rfl, rfl, rfl, rfl, rfl, rfl, rfl, rfl, trivial⟩)
                        refine WE.next ?_
                        have hSlt : ∀ b, (fun b => b = ob) b → b < w120.heap.size := fun b e => e ▸ hG121.lt
                        refine WC.tail1 (S := ((fun b => b = ob))) [(true, .val (.slice ((some ⟨ob, 0, none⟩)) ((2 + 4 * n)) ((2 + 4 * n)))), (true, .val (.int .i64 ((((2 + 4 * f + 2 * 0) : Nat) : Int)))), (true, .val (.int .i64 (((((2 + 4 * f + 2 * 0) + 1) : Nat) : Int)))), (true, .val (.slice ((some ⟨ob, 0, none⟩)) ((2 + 4 * n)) ((2 + 4 * n)))), (true, .val (.int .i64 ((((2 + 4 * f + 2 * 0) : Nat) : Int)))), (true, .val (.int .i64 (((((2 + 4 * f + 2 * 0) + 1) : Nat) : Int)))), (true, .val (.pointer (some ⟨ob, 0 + (((2 + 4 * f + 2 * 0) + 1)), none⟩))), (true, .val (.int .i64 (((gset ((refS 0 f (lget l i).l (rG (lget l i) (gset (outG n l i) 0 (outG n l i 0 + 1)) f))) ((2 + 4 * f + 2 * 0)) ((((refS 0 f (lget l i).l (rG (lget l i) (gset (outG n l i) 0 (outG n l i 0 + 1)) f)) ((2 + 4 * f + 2 * 0))) + ((((lget l i).r.often f) : Nat) : Int)))) (((2 + 4 * f + 2 * 0) + 1)))))), (true, .val (.slice a l.length c)), (true, .val (.int .i64 (((i : Nat) : Int)))), (true, .val (.pointer (some ⟨b14, o15 + i * 5, none⟩))), (true, .val (.pointer (some ⟨b14, o15 + i * 5 + 3, none⟩))), (true, .val (.agg #[.int .i64 ((lget l i).r.f), .slice ((A18 i)) ((lget l i).r.args.length) ((C19 i))])), (true, .val (.int .i64 (((f : Nat) : Int)))), (true, .val (.int .i64 (((((lget l i).r.deep f 1) : Nat) : Int)))), (true, .val (.int .i64 ((max (((gset ((refS 0 f (lget l i).l (rG (lget l i) (gset (outG n l i) 0 (outG n l i 0 + 1)) f))) ((2 + 4 * f + 2 * 0)) ((((refS 0 f (lget l i).l (rG (lget l i) (gset (outG n l i) 0 (outG n l i 0 + 1)) f)) ((2 + 4 * f + 2 * 0))) + ((((lget l i).r.often f) : Nat) : Int)))) (((2 + 4 * f + 2 * 0) + 1)))) (((((lget l i).r.deep f 1) : Nat) : Int)))))), (true, .val (.pointer (some ⟨ob, 0 + (((2 + 4 * f + 2 * 0) + 1)), none⟩))), (true, .val undef)] [(0, .int .i64 (((n : Nat) : Int))), (1, .slice a l.length c), (4, .slice none 0 0), (5, .slice ((some ⟨ob, 0, none⟩)) ((2 + 4 * n)) ((2 + 4 * n))), (6, .int .i64 (((i : Nat) : Int))), (7, .int .i64 0), (8, .int .i64 (((f : Nat) : Int))), (9, .int .i64 ((((2 + 4 * f + 2 * 0) : Nat) : Int))), (15, .bool (((decide ((((n : Nat) : Int) : Int) < (0 : Int))) || (decide ((96 : Int) < (((n : Nat) : Int) : Int)))))), (23, .bool ((decide ((((i : Nat) : Int) : Int) < (((l.length : Nat) : Int) : Int))))), (30, .bool ((lget l i).neg)), (39, .bool ((decide ((((f : Nat) : Int) : Int) < (((n : Nat) : Int) : Int))))), (54, .bool ((!(lget l i).l.isTrue))), (93, .bool ((!(lget l i).r.isTrue)))] 17 (fun wz => IRow wz 3 ob (2 + 4 * n) (gset ((gset ((refS 0 f (lget l i).l (rG (lget l i) (gset (outG n l i) 0 (outG n l i 0 + 1)) f))) ((2 + 4 * f + 2 * 0)) ((((refS 0 f (lget l i).l (rG (lget l i) (gset (outG n l i) 0 (outG n l i 0 + 1)) f)) ((2 + 4 * f + 2 * 0))) + ((((lget l i).r.often f) : Nat) : Int))))) (((2 + 4 * f + 2 * 0) + 1)) ((max (((gset ((refS 0 f (lget l i).l (rG (lget l i) (gset (outG n l i) 0 (outG n l i 0 + 1)) f))) ((2 + 4 * f + 2 * 0)) ((((refS 0 f (lget l i).l (rG (lget l i) (gset (outG n l i) 0 (outG n l i 0 + 1)) f)) ((2 + 4 * f + 2 * 0))) + ((((lget l i).r.often f) : Nat) : Int)))) (((2 + 4 * f + 2 * 0) + 1)))) (((((lget l i).r.deep f 1) : Nat) : Int)))))) (fun w w' hb h => h.below hb) ⟨rfl, rfl, rfl, rfl, rfl, rfl, rfl, rfl, rfl, rfl, rfl, rfl, rfl, rfl, trivial⟩ (by kernel_rfl) (by kernel_rfl) (by kernel_rfl) (by kernel_rfl) ?_ ?_
                        · refine ⟨.inl ⟨rfl, true, .none rfl, (fun gg b h => by cases h), fun h w => optUndef h, fun zβ za zw zc => ?_⟩, ?_⟩
                          · exact wp_move rfl (zc.kn.ev rfl) ⟨_, rfl, Below.refl _ _, optDef zβ rfl⟩
                          refine ⟨.inl ⟨rfl, true, .none rfl, (fun gg b h => by cases h), fun h w => optUndef h, fun zβ za zw zc => ?_⟩, ?_⟩
                          · exact wp_move rfl (zc.kn.ev rfl) ⟨_, rfl, Below.refl _ _, optDef zβ rfl⟩
                          refine ⟨.inl ⟨rfl, true, .none rfl, (fun gg b h => by cases h), fun h w => optUndef h, fun zβ za zw zc => ?_⟩, ?_⟩
                          · exact addb_3 rfl ((show za.eval (.tmp 110) = za.tmps.getD 110 undef from rfl).trans (optSVal (zc.dep 1 110 (by kernel_rfl) (by decide)) rfl rfl)) (zc.kn.ev rfl) (wrap_eq (by omega) (by omega) (by omega)) ⟨_, rfl, Below.refl _ _, optDef zβ rfl⟩
                          refine ⟨.inl ⟨rfl, true, .none rfl, (fun gg b h => by cases h), fun h w => optUndef h, fun zβ za zw zc => ?_⟩, ?_⟩
                          · exact wp_move rfl (zc.kn.ev rfl) ⟨_, rfl, Below.refl _ _, optDef zβ rfl⟩
                          refine ⟨.inl ⟨rfl, true, .none rfl, (fun gg b h => by cases h), fun h w => optUndef h, fun zβ za zw zc => ?_⟩, ?_⟩
                          · exact wp_move rfl (zc.kn.ev rfl) ⟨_, rfl, Below.refl _ _, optDef zβ rfl⟩
                          refine ⟨.inl ⟨rfl, true, .none rfl, (fun gg b h => by cases h), fun h w => optUndef h, fun zβ za zw zc => ?_⟩, ?_⟩
                          · exact addb_3 rfl ((show za.eval (.tmp 113) = za.tmps.getD 113 undef from rfl).trans (optSVal (zc.dep 4 113 (by kernel_rfl) (by decide)) rfl rfl)) (zc.kn.ev rfl) (wrap_eq (by omega) (by omega) (by omega)) ⟨_, rfl, Below.refl _ _, optDef zβ rfl⟩
                          refine ⟨.inl ⟨rfl, true, .none rfl, (fun gg b h => by cases h), fun h w => optUndef h, fun zβ za zw zc => ?_⟩, ?_⟩
                          · exact ix_27 (k := ((2 + 4 * f + 2 * 0) + 1)) rfl ((show za.eval (.tmp 112) = za.tmps.getD 112 undef from rfl).trans (optSVal (zc.dep 3 112 (by kernel_rfl) (by decide)) rfl rfl)) rfl ((show za.eval (.tmp 114) = za.tmps.getD 114 undef from rfl).trans (optSVal (zc.dep 5 114 (by kernel_rfl) (by decide)) rfl rfl)) (by first | omega | (simp; omega)) ⟨_, rfl, Below.refl _ _, optDef zβ rfl⟩
                          refine ⟨.inl ⟨rfl, true, .none rfl, (fun gg b h => by cases h), fun h w => optUndef h, fun zβ za zw zc => ?_⟩, ?_⟩
                          · exact ld_3 rfl ((show za.eval (.tmp 115) = za.tmps.getD 115 undef from rfl).trans (optSVal (zc.dep 6 115 (by kernel_rfl) (by decide)) rfl rfl)) (bkeeps (zc.early (by kernel_rfl)) _ _ (IRow.cellAt hG121 (by omega) (by omega))) ⟨_, rfl, Below.refl _ _, optDef zβ rfl⟩
                          refine ⟨.inl ⟨rfl, true, .none rfl, (fun gg b h => by cases h), fun h w => optUndef h, fun zβ za zw zc => ?_⟩, ?_⟩
                          · exact wp_move rfl (zc.kn.ev rfl) ⟨_, rfl, Below.refl _ _, optDef zβ rfl⟩
                          refine ⟨.inl ⟨rfl, true, .none rfl, (fun gg b h => by cases h), fun h w => optUndef h, fun zβ za zw zc => ?_⟩, ?_⟩
                          · exact wp_move rfl (zc.kn.ev rfl) ⟨_, rfl, Below.refl _ _, optDef zβ rfl⟩
                          refine ⟨.inl ⟨rfl, true, .none rfl, (fun gg b h => by cases h), fun h w => optUndef h, fun zβ za zw zc => ?_⟩, ?_⟩
                          · exact ix_23 (k := i) rfl ((show za.eval (.tmp 117) = za.tmps.getD 117 undef from rfl).trans (optSVal (zc.dep 8 117 (by kernel_rfl) (by decide)) rfl rfl)) (ha20 i (by first | omega | (simp; omega))) ((show za.eval (.tmp 118) = za.tmps.getD 118 undef from rfl).trans (optSVal (zc.dep 9 118 (by kernel_rfl) (by decide)) rfl rfl)) (by first | omega | (simp; omega)) ⟨_, rfl, Below.refl _ _, optDef zβ rfl⟩
                          refine ⟨.inl ⟨rfl, true, .none rfl, (fun gg b h => by cases h), fun h w => optUndef h, fun zβ za zw zc => ?_⟩, ?_⟩
                          · exact fld_34_2 rfl ((show za.eval (.tmp 119) = za.tmps.getD 119 undef from rfl).trans (optSVal (zc.dep 10 119 (by kernel_rfl) (by decide)) rfl rfl)) ⟨_, rfl, Below.refl _ _, optDef zβ rfl⟩
                          refine ⟨.inl ⟨rfl, true, .none rfl, (fun gg b h => by cases h), fun h w => optUndef h, fun zβ za zw zc => ?_⟩, ?_⟩
                          · exact ld_32 rfl ((show za.eval (.tmp 120) = za.tmps.getD 120 undef from rfl).trans (optSVal (zc.dep 11 120 (by kernel_rfl) (by decide)) rfl rfl)) (bkeeps (bstep hb123 (zc.early (by kernel_rfl))) _ _ (hc21 i (by first | omega | (simp; omega))).2.2.2.1) (bkeeps (bstep hb123 (zc.early (by kernel_rfl))) _ _ (hc21 i (by first | omega | (simp; omega))).2.2.2.2.1) ⟨_, rfl, Below.refl _ _, optDef zβ rfl⟩
                          refine ⟨.inl ⟨rfl, true, .none rfl, (fun gg b h => by cases h), fun h w => optUndef h, fun zβ za zw zc => ?_⟩, ?_⟩
                          · exact wp_move rfl (zc.kn.ev rfl) ⟨_, rfl, Below.refl _ _, optDef zβ rfl⟩
                          refine ⟨.inl ⟨rfl, true, .none rfl, (fun gg b h => by cases h), fun h w => optUndef h, fun zβ za zw zc => ?_⟩, ?_⟩
                          · exact wp_call (by kernel_rfl) rfl (hv3 ((show za.eval (.tmp 121) = za.tmps.getD 121 undef from rfl).trans (optSVal (zc.dep 12 121 (by kernel_rfl) (by decide)) rfl rfl)) ((show za.eval (.tmp 122) = za.tmps.getD 122 undef from rfl).trans (optSVal (zc.dep 13 122 (by kernel_rfl) (by decide)) rfl rfl)) (zc.kn.ev rfl)) (deep_any f (by omega) ((lget l i).r) 1 _ _ (by have z := (hpr hil); omega) (hpr hil) (IsT.below (bstep hb123 (zc.early (by kernel_rfl))) (InT.isT (hc21 i (by first | omega | (simp; omega))).2.2.2.2.2.2))) (fun v w' h => ⟨v, rfl, h.2, optDef zβ h.1⟩)
                          refine ⟨.inl ⟨rfl, true, .none rfl, (fun gg b h => by cases h), fun h w => optUndef h, fun zβ za zw zc => ?_⟩, ?_⟩
                          · exact wp_max3 rfl ((show za.eval (.tmp 116) = za.tmps.getD 116 undef from rfl).trans (optSVal (zc.dep 7 116 (by kernel_rfl) (by decide)) rfl rfl)) ((show za.eval (.tmp 123) = za.tmps.getD 123 undef from rfl).trans (optSVal (zc.dep 14 123 (by kernel_rfl) (by decide)) rfl rfl)) rfl ⟨_, rfl, Below.refl _ _, optDef zβ rfl⟩
                          refine ⟨.inl ⟨rfl, true, .none rfl, (fun gg b h => by cases h), fun h w => optUndef h, fun zβ za zw zc => ?_⟩, ?_⟩
                          · exact ix_27 (k := ((2 + 4 * f + 2 * 0) + 1)) rfl ((show za.eval (.tmp 109) = za.tmps.getD 109 undef from rfl).trans (optSVal (zc.dep 0 109 (by kernel_rfl) (by decide)) rfl rfl)) rfl ((show za.eval (.tmp 111) = za.tmps.getD 111 undef from rfl).trans (optSVal (zc.dep 2 111 (by kernel_rfl) (by decide)) rfl rfl)) (by first | omega | (simp; omega)) ⟨_, rfl, Below.refl _ _, optDef zβ rfl⟩
                          refine ⟨.inr ⟨rfl, rfl, fun za zw zc => ?_⟩, ?_⟩
                          · have zm := hG121.below zc.below
                            exact st_3 rfl ((show za.eval (.tmp 125) = za.tmps.getD 125 undef from rfl).trans (optSVal (zc.dep 16 125 (by kernel_rfl) (by decide)) rfl rfl)) ((show za.eval (.tmp 124) = za.tmps.getD 124 undef from rfl).trans (optSVal (zc.dep 15 124 (by kernel_rfl) (by decide)) rfl rfl)) zm.blk (IRow.size zm (by omega)) (fun v => ⟨v, rfl, IRow.setAt zm _ (by omega) (by omega), .ofUpd (Upd.at_ _ _ _ _) rfl⟩)
                          exact trivial
                        · intro za w125 zh hG126 hc127 zu
                          have hb128 := chg_below hb123 hc127 (fun b hb => (by (try dsimp only at *); omega))
                          have hM129 := IRow.congr hG126 (refS_not (way := 0) (f := f) htR).symm
                          clear zu
                          refine (show WE _ [(0, .int .i64 (((n : Nat) : Int))), (1, .slice a l.length c), (4, .slice none 0 0), (5, .slice ((some ⟨ob, 0, none⟩)) ((2 + 4 * n)) ((2 + 4 * n))), (6, .int .i64 (((i : Nat) : Int))), (7, .int .i64 0), (8, .int .i64 (((f : Nat) : Int))), (9, .int .i64 ((((2 + 4 * f + 2 * 0) : Nat) : Int))), (15, .bool (((decide ((((n : Nat) : Int) : Int) < (0 : Int))) || (decide ((96 : Int) < (((n : Nat) : Int) : Int)))))), (23, .bool ((decide ((((i : Nat) : Int) : Int) < (((l.length : Nat) : Int) : Int))))), (30, .bool ((lget l i).neg)), (39, .bool ((decide ((((f : Nat) : Int) : Int) < (((n : Nat) : Int) : Int))))), (54, .bool ((!(lget l i).l.isTrue))), (93, .bool ((!(lget l i).r.isTrue)))] w125 _ .normal from ?_) za (zh.sub ⟨rfl, rfl, rfl, rfl, rfl, rfl, rfl, rfl, rfl, rfl, rfl, rfl, rfl, rfl, trivial⟩)
                          refine WE.blockNormal ?_
                          refine WE.next ?_
                          refine WC.region ?_
                          refine WL.val (.int .i64 (((f : Nat) : Int))) rfl rfl rfl (fun za zC zh zk => wp_move rfl (zh.ev rfl) zk) ?_
                          refine WL.val (.int .i64 ((((f + 1) : Nat) : Int))) rfl rfl rfl (fun za zC zh zk => addb_3 rfl (zh.ev rfl) (zh.ev rfl) (wrap_eq (by omega) (by omega) (by omega)) zk) ?_
                          refine WL.val (.int .i64 ((((f + 1) : Nat) : Int))) rfl rfl rfl (fun za zC zh zk => wp_assign rfl (zh.ev rfl) zk) ?_
                          refine WL.nil (WE.sub (K' := [(0, .int .i64 (((n : Nat) : Int))), (1, .slice a l.length c), (4, .slice none 0 0), (5, .slice ((some ⟨ob, 0, none⟩)) ((2 + 4 * n)) ((2 + 4 * n))), (6, .int .i64 (((i : Nat) : Int))), (7, .int .i64 0), (8, .int .i64 ((((f + 1) : Nat) : Int))), (9, .int .i64 ((((2 + 4 * f + 2 * 0) : Nat) : Int))), (15, .bool (((decide ((((n : Nat) : Int) : Int) < (0 : Int))) || (decide ((96 : Int) < (((n : Nat) : Int) : Int)))))), (23, .bool ((decide ((((i : Nat) : Int) : Int) < (((l.length : Nat) : Int) : Int))))), (30, .bool ((lget l i).neg)), (39, .bool ((decide ((((f : Nat) : Int) : Int) < (((n : Nat) : Int) : Int))))), (54, .bool ((!(lget l i).l.isTrue))), (93, .bool ((!(lget l i).r.isTrue)))]) ⟨rfl, rfl, rfl, rfl, rfl, rfl, rfl, rfl, rfl, rfl, rfl, rfl, rfl, rfl, trivial⟩ ?_)
                          refine WE.round (f + 1) ⟨rfl, rfl, rfl, rfl, rfl, rfl, rfl, rfl, rfl, rfl, trivial⟩ ?_ ?_
                          · exact ⟨by omega, hb128, (IRow.congr hM129 (by rw [rG_succ, ← hway]))⟩
                          · omega
                    · have h116 : ¬ (¬ ((lget l i).r.isTrue = true)) := by simpa using h116
                      have htR : (lget l i).r.isTrue = true := by simpa using h116
                      have ho131 := hM113.below hq114
                      have hM130 := IRow.congr ho131 (refS_true (t := (lget l i).r) (way := 0) (f := f) htR).symm
                      refine WC.skip ?_
                      refine WE.blockNormal ?_
                      refine WE.next ?_
                      refine WC.region ?_
                      refine WL.val (.int .i64 (((f : Nat) : Int))) rfl rfl rfl (fun za zC zh zk => wp_move rfl (zh.ev rfl) zk) ?_
                      refine WL.val (.int .i64 ((((f + 1) : Nat) : Int))) rfl rfl rfl (fun za zC zh zk => addb_3 rfl (zh.ev rfl) (zh.ev rfl) (wrap_eq (by omega) (by omega) (by omega)) zk) ?_
                      refine WL.val (.int .i64 ((((f + 1) : Nat) : Int))) rfl rfl rfl (fun za zC zh zk => wp_assign rfl (zh.ev rfl) zk) ?_
                      refine WL.nil (WE.sub (K' := [(0, .int .i64 (((n : Nat) : Int))), (1, .slice a l.length c), (4, .slice none 0 0), (5, .slice ((some ⟨ob, 0, none⟩)) ((2 + 4 * n)) ((2 + 4 * n))), (6, .int .i64 (((i : Nat) : Int))), (7, .int .i64 0), (8, .int .i64 ((((f + 1) : Nat) : Int))), (9, .int .i64 ((((2 + 4 * f + 2 * 0) : Nat) : Int))), (15, .bool (((decide ((((n : Nat) : Int) : Int) < (0 : Int))) || (decide ((96 : Int) < (((n : Nat) : Int) : Int)))))), (23, .bool ((decide ((((i : Nat) : Int) : Int) < (((l.length : Nat) : Int) : Int))))), (30, .bool ((lget l i).neg)), (39, .bool ((decide ((((f : Nat) : Int) : Int) < (((n : Nat) : Int) : Int))))), (54, .bool ((!(lget l i).l.isTrue))), (93, .bool ((!(lget l i).r.isTrue)))]) ⟨rfl, rfl, rfl, rfl, rfl, rfl, rfl, rfl, rfl, rfl, rfl, rfl, rfl, rfl, trivial⟩ ?_)
                      refine WE.round (f + 1) ⟨rfl, rfl, rfl, rfl, rfl, rfl, rfl, rfl, rfl, rfl, trivial⟩ ?_ ?_
                      · have hb132 : Below w.heap.size w w115 := (bstep hb112 hq114)
                        exact ⟨by omega, hb132, (IRow.congr hM130 (by rw [rG_succ, ← hway]))⟩
                      · omega
              · have h100 : ¬ (¬ ((lget l i).l.isTrue = true)) := by simpa using h100
                have htL : (lget l i).l.isTrue = true := by simpa using h100
                have hL0 : ∀ k, 0 ≤ (refS 0 f (lget l i).l (rG (lget l i) (gset (outG n l i) 0 (outG n l i 0 + 1)) f)) k := fun k => refS_nonneg hf0 k
                have hL1 : ∀ k, evn k → (refS 0 f (lget l i).l (rG (lget l i) (gset (outG n l i) 0 (outG n l i 0 + 1)) f)) k ≤ i * 17179869184 + 1 + 8589934592 + 4294967296 := fun k hk => refS_ev hf0 hf1 (hpl hil) k hk
                have ho134 := ho96.below hq98
                have hM133 := IRow.congr ho134 (refS_true (way := 0) (f := f) htL).symm
                refine WC.skip ?_
                refine WE.next ?_
                refine WC.seq ?_
                refine WC.region ?_
                refine WL.val (.slice a l.length c) rfl rfl rfl (fun za zC zh zk => wp_move rfl (zh.ev rfl) zk) ?_
                refine WL.val (.int .i64 (((i : Nat) : Int))) rfl rfl rfl (fun za zC zh zk => wp_move rfl (zh.ev rfl) zk) ?_
                refine WL.val (.pointer (some ⟨b14, o15 + i * 5, none⟩)) rfl rfl rfl (fun za zC zh zk => ix_23 (k := i) rfl (zh.ev rfl) (ha20 i (by first | omega | (simp; omega))) (zh.ev rfl) (by first | omega | (simp; omega)) zk) ?_
                refine WL.val (.pointer (some ⟨b14, o15 + i * 5 + 3, none⟩)) rfl rfl rfl (fun za zC zh zk => fld_34_2 rfl (zh.ev rfl) zk) ?_
                have hb135 : Below w.heap.size w w99 := (bstep hb95 hq98)
                refine WL.val (.agg #[.int .i64 ((lget l i).r.f), .slice ((A18 i)) ((lget l i).r.args.length) ((C19 i))]) rfl rfl rfl (fun za zC zh zk => ld_32 rfl (zh.ev rfl) (bkeeps hb135 _ _ (hc21 i (by first | omega | (simp; omega))).2.2.2.1) (bkeeps hb135 _ _ (hc21 i (by first | omega | (simp; omega))).2.2.2.2.1) zk) ?_
                refine WL.call rfl rfl rfl (fun za zh zC => wp_call (by kernel_rfl) rfl (hv1 (zh.ev rfl))) (rtrue_any ((lget l i).r) _ _ (IsT.below hb135 (InT.isT (hc21 i (by first | omega | (simp; omega))).2.2.2.2.2.2))) ?_
                rintro _ w137 ⟨rfl, hq136⟩
                refine WL.val (.bool ((!(lget l i).r.isTrue))) rfl rfl rfl (fun za zC zh zk => wp_not rfl (zh.ev rfl) zk) ?_
                refine WL.nil (WE.sub (K' := [(0, .int .i64 (((n : Nat) : Int))), (1, .slice a l.length c), (4, .slice none 0 0), (5, .slice ((some ⟨ob, 0, none⟩)) ((2 + 4 * n)) ((2 + 4 * n))), (6, .int .i64 (((i : Nat) : Int))), (7, .int .i64 0), (8, .int .i64 (((f : Nat) : Int))), (9, .int .i64 ((((2 + 4 * f + 2 * 0) : Nat) : Int))), (15, .bool (((decide ((((n : Nat) : Int) : Int) < (0 : Int))) || (decide ((96 : Int) < (((n : Nat) : Int) : Int)))))), (23, .bool ((decide ((((i : Nat) : Int) : Int) < (((l.length : Nat) : Int) : Int))))), (30, .bool ((lget l i).neg)), (39, .bool ((decide ((((f : Nat) : Int) : Int) < (((n : Nat) : Int) : Int))))), (54, .bool ((!(lget l i).l.isTrue))), (93, .bool ((!(lget l i).r.isTrue)))]) ⟨rfl, rfl, rfl, rfl, rfl, rfl, rfl, rfl, rfl, rfl, rfl, rfl, rfl, rfl, trivial⟩ ?_)
                refine WE.next ?_
                refine WC.cond rfl (fun h138 => ?_) (fun h138 => ?_)
                · have h138 : ¬ ((lget l i).r.isTrue = true) := by simpa using h138
                  have htR : ¬ (lget l i).r.isTrue = true := by simpa using h138
                  refine WC.seq ?_
                  have ho139 := hM133.below hq136
                  have hb140 : Below w.heap.size w w137 := (bstep hb135 hq136)
                  have hSlt : ∀ b, (fun b => b = ob) b → b < w137.heap.size := fun b e => e ▸ ho139.lt
                  refine WC.tail1 (S := ((fun b => b = ob))) [(true, .val (.slice ((some ⟨ob, 0, none⟩)) ((2 + 4 * n)) ((2 + 4 * n)))), (true, .val (.int .i64 ((((2 + 4 * f + 2 * 0) : Nat) : Int)))), (true, .val (.slice ((some ⟨ob, 0, none⟩)) ((2 + 4 * n)) ((2 + 4 * n)))), (true, .val (.int .i64 ((((2 + 4 * f + 2 * 0) : Nat) : Int)))), (true, .val (.pointer (some ⟨ob, 0 + ((2 + 4 * f + 2 * 0)), none⟩))), (true, .val (.int .i64 (((refS 0 f (lget l i).l (rG (lget l i) (gset (outG n l i) 0 (outG n l i 0 + 1)) f)) ((2 + 4 * f + 2 * 0)))))), (true, .val (.slice a l.length c)), (true, .val (.int .i64 (((i : Nat) : Int)))), (true, .val (.pointer (some ⟨b14, o15 + i * 5, none⟩))), (true, .val (.pointer (some ⟨b14, o15 + i * 5 + 3, none⟩))), (true, .val (.agg #[.int .i64 ((lget l i).r.f), .slice ((A18 i)) ((lget l i).r.args.length) ((C19 i))])), (true, .val (.int .i64 (((f : Nat) : Int)))), (true, .val (.int .i64 (((((lget l i).r.often f) : Nat) : Int)))), (true, .val (.int .i64 ((((refS 0 f (lget l i).l (rG (lget l i) (gset (outG n l i) 0 (outG n l i 0 + 1)) f)) ((2 + 4 * f + 2 * 0))) + ((((lget l i).r.often f) : Nat) : Int))))), (true, .val (.pointer (some ⟨ob, 0 + ((2 + 4 * f + 2 * 0)), none⟩))), (true, .val undef)] [(0, .int .i64 (((n : Nat) : Int))), (1, .slice a l.length c), (4, .slice none 0 0), (5, .slice ((some ⟨ob, 0, none⟩)) ((2 + 4 * n)) ((2 + 4 * n))), (6, .int .i64 (((i : Nat) : Int))), (7, .int .i64 0), (8, .int .i64 (((f : Nat) : Int))), (9, .int .i64 ((((2 + 4 * f + 2 * 0) : Nat) : Int))), (15, .bool (((decide ((((n : Nat) : Int) : Int) < (0 : Int))) || (decide ((96 : Int) < (((n : Nat) : Int) : Int)))))), (23, .bool ((decide ((((i : Nat) : Int) : Int) < (((l.length : Nat) : Int) : Int))))), (30, .bool ((lget l i).neg)), (39, .bool ((decide ((((f : Nat) : Int) : Int) < (((n : Nat) : Int) : Int))))), (54, .bool ((!(lget l i).l.isTrue))), (93, .bool ((!(lget l i).r.isTrue)))] 15 (fun wz => IRow wz 3 ob (2 + 4 * n) (gset ((refS 0 f (lget l i).l (rG (lget l i) (gset (outG n l i) 0 (outG n l i 0 + 1)) f))) ((2 + 4 * f + 2 * 0)) ((((refS 0 f (lget l i).l (rG (lget l i) (gset (outG n l i) 0 (outG n l i 0 + 1)) f)) ((2 + 4 * f + 2 * 0))) + ((((lget l i).r.often f) : Nat) : Int))))) (fun w w' hb h => h.below hb) ⟨rfl, rfl, rfl, rfl, rfl, rfl, rfl, rfl, rfl, rfl, rfl, rfl, rfl, rfl, trivial⟩ (by kernel_rfl) (by kernel_rfl) (by kernel_rfl) (by kernel_rfl) ?_ ?_
                  · refine ⟨.inl ⟨rfl, true, .none rfl, (fun gg b h => by cases h), fun h w => optUndef h, fun zβ za zw zc => ?_⟩, ?_⟩
                    · exact wp_move rfl (zc.kn.ev rfl) ⟨_, rfl, Below.refl _ _, optDef zβ rfl⟩
                    refine ⟨.inl ⟨rfl, true, .none rfl, (fun gg b h => by cases h), fun h w => optUndef h, fun zβ za zw zc => ?_⟩, ?_⟩
                    · exact wp_move rfl (zc.kn.ev rfl) ⟨_, rfl, Below.refl _ _, optDef zβ rfl⟩
                    refine ⟨.inl ⟨rfl, true, .none rfl, (fun gg b h => by cases h), fun h w => optUndef h, fun zβ za zw zc => ?_⟩, ?_⟩
                    · exact wp_move rfl (zc.kn.ev rfl) ⟨_, rfl, Below.refl _ _, optDef zβ rfl⟩
                    refine ⟨.inl ⟨rfl, true, .none rfl, (fun gg b h => by cases h), fun h w => optUndef h, fun zβ za zw zc => ?_⟩, ?_⟩
                    · exact wp_move rfl (zc.kn.ev rfl) ⟨_, rfl, Below.refl _ _, optDef zβ rfl⟩
                    refine ⟨.inl ⟨rfl, true, .none rfl, (fun gg b h => by cases h), fun h w => optUndef h, fun zβ za zw zc => ?_⟩, ?_⟩
                    · exact ix_27 (k := (2 + 4 * f + 2 * 0)) rfl ((show za.eval (.tmp 96) = za.tmps.getD 96 undef from rfl).trans (optSVal (zc.dep 2 96 (by kernel_rfl) (by decide)) rfl rfl)) rfl ((show za.eval (.tmp 97) = za.tmps.getD 97 undef from rfl).trans (optSVal (zc.dep 3 97 (by kernel_rfl) (by decide)) rfl rfl)) (by first | omega | (simp; omega)) ⟨_, rfl, Below.refl _ _, optDef zβ rfl⟩
                    refine ⟨.inl ⟨rfl, true, .none rfl, (fun gg b h => by cases h), fun h w => optUndef h, fun zβ za zw zc => ?_⟩, ?_⟩
                    · exact ld_3 rfl ((show za.eval (.tmp 98) = za.tmps.getD 98 undef from rfl).trans (optSVal (zc.dep 4 98 (by kernel_rfl) (by decide)) rfl rfl)) (bkeeps (zc.early (by kernel_rfl)) _ _ (IRow.cellAt ho139 (by omega) (by omega))) ⟨_, rfl, Below.refl _ _, optDef zβ rfl⟩
                    refine ⟨.inl ⟨rfl, true, .none rfl, (fun gg b h => by cases h), fun h w => optUndef h, fun zβ za zw zc => ?_⟩, ?_⟩
                    · exact wp_move rfl (zc.kn.ev rfl) ⟨_, rfl, Below.refl _ _, optDef zβ rfl⟩
                    refine ⟨.inl ⟨rfl, true, .none rfl, (fun gg b h => by cases h), fun h w => optUndef h, fun zβ za zw zc => ?_⟩, ?_⟩
                    · exact wp_move rfl (zc.kn.ev rfl) ⟨_, rfl, Below.refl _ _, optDef zβ rfl⟩
                    refine ⟨.inl ⟨rfl, true, .none rfl, (fun gg b h => by cases h), fun h w => optUndef h, fun zβ za zw zc => ?_⟩, ?_⟩
                    · exact ix_23 (k := i) rfl ((show za.eval (.tmp 100) = za.tmps.getD 100 undef from rfl).trans (optSVal (zc.dep 6 100 (by kernel_rfl) (by decide)) rfl rfl)) (ha20 i (by first | omega | (simp; omega))) ((show za.eval (.tmp 101) = za.tmps.getD 101 undef from rfl).trans (optSVal (zc.dep 7 101 (by kernel_rfl) (by decide)) rfl rfl)) (by first | omega | (simp; omega)) ⟨_, rfl, Below.refl _ _, optDef zβ rfl⟩
                    refine ⟨.inl ⟨rfl, true, .none rfl, (fun gg b h => by cases h), fun h w => optUndef h, fun zβ za zw zc => ?_⟩, ?_⟩
                    · exact fld_34_2 rfl ((show za.eval (.tmp 102) = za.tmps.getD 102 undef from rfl).trans (optSVal (zc.dep 8 102 (by kernel_rfl) (by decide)) rfl rfl)) ⟨_, rfl, Below.refl _ _, optDef zβ rfl⟩
                    refine ⟨.inl ⟨rfl, true, .none rfl, (fun gg b h => by cases h), fun h w => optUndef h, fun zβ za zw zc => ?_⟩, ?_⟩
                    · exact ld_32 rfl ((show za.eval (.tmp 103) = za.tmps.getD 103 undef from rfl).trans (optSVal (zc.dep 9 103 (by kernel_rfl) (by decide)) rfl rfl)) (bkeeps (bstep hb140 (zc.early (by kernel_rfl))) _ _ (hc21 i (by first | omega | (simp; omega))).2.2.2.1) (bkeeps (bstep hb140 (zc.early (by kernel_rfl))) _ _ (hc21 i (by first | omega | (simp; omega))).2.2.2.2.1) ⟨_, rfl, Below.refl _ _, optDef zβ rfl⟩
                    refine ⟨.inl ⟨rfl, true, .none rfl, (fun gg b h => by cases h), fun h w => optUndef h, fun zβ za zw zc => ?_⟩, ?_⟩
                    · exact wp_move rfl (zc.kn.ev rfl) ⟨_, rfl, Below.refl _ _, optDef zβ rfl⟩
                    refine ⟨.inl ⟨rfl, true, .none rfl, (fun gg b h => by cases h), fun h w => optUndef h, fun zβ za zw zc => ?_⟩, ?_⟩
                    · exact wp_call (by kernel_rfl) rfl (hv2 ((show za.eval (.tmp 104) = za.tmps.getD 104 undef from rfl).trans (optSVal (zc.dep 10 104 (by kernel_rfl) (by decide)) rfl rfl)) ((show za.eval (.tmp 105) = za.tmps.getD 105 undef from rfl).trans (optSVal (zc.dep 11 105 (by kernel_rfl) (by decide)) rfl rfl))) (often_any f (by omega) ((lget l i).r) _ _ (hpr hil) (IsT.below (bstep hb140 (zc.early (by kernel_rfl))) (InT.isT (hc21 i (by first | omega | (simp; omega))).2.2.2.2.2.2))) (fun v w' h => ⟨v, rfl, h.2, optDef zβ h.1⟩)
                    refine ⟨.inl ⟨rfl, true, .none rfl, (fun gg b h => by cases h), fun h w => optUndef h, fun zβ za zw zc => ?_⟩, ?_⟩
                    · exact addb_3 rfl ((show za.eval (.tmp 99) = za.tmps.getD 99 undef from rfl).trans (optSVal (zc.dep 5 99 (by kernel_rfl) (by decide)) rfl rfl)) ((show za.eval (.tmp 106) = za.tmps.getD 106 undef from rfl).trans (optSVal (zc.dep 12 106 (by kernel_rfl) (by decide)) rfl rfl)) (wrap_eq rfl (by have z := hL0 (2 + 4 * f + 2 * 0); omega) (by have z := hL1 (2 + 4 * f + 2 * 0) (by unfold evn; omega); have z2 := T.often_le (lget l i).r f; have z3 := hpr hil; omega)) ⟨_, rfl, Below.refl _ _, optDef zβ rfl⟩
                    refine ⟨.inl ⟨rfl, true, .none rfl, (fun gg b h => by cases h), fun h w => optUndef h, fun zβ za zw zc => ?_⟩, ?_⟩
                    · exact ix_27 (k := (2 + 4 * f + 2 * 0)) rfl ((show za.eval (.tmp 94) = za.tmps.getD 94 undef from rfl).trans (optSVal (zc.dep 0 94 (by kernel_rfl) (by decide)) rfl rfl)) rfl ((show za.eval (.tmp 95) = za.tmps.getD 95 undef from rfl).trans (optSVal (zc.dep 1 95 (by kernel_rfl) (by decide)) rfl rfl)) (by first | omega | (simp; omega)) ⟨_, rfl, Below.refl _ _, optDef zβ rfl⟩
                    refine ⟨.inr ⟨rfl, rfl, fun za zw zc => ?_⟩, ?_⟩
                    · have zm := ho139.below zc.below
                      exact st_3 rfl ((show za.eval (.tmp 108) = za.tmps.getD 108 undef from rfl).trans (optSVal (zc.dep 14 108 (by kernel_rfl) (by decide)) rfl rfl)) ((show za.eval (.tmp 107) = za.tmps.getD 107 undef from rfl).trans (optSVal (zc.dep 13 107 (by kernel_rfl) (by decide)) rfl rfl)) zm.blk (IRow.size zm (by omega)) (fun v => ⟨v, rfl, IRow.setAt zm _ (by omega) (by omega), .ofUpd (Upd.at_ _ _ _ _) rfl⟩)
                    exact trivial
                  · intro za w142 zh hG143 hc144 zu
                    have hb145 := chg_below hb140 hc144 (fun b hb => (by (try dsimp only at *); omega))
                    clear zu
                    refine (show WE _ [(0, .int .i64 (((n : Nat) : Int))), (1, .slice a l.length c), (4, .slice none 0 0), (5, .slice ((some ⟨ob, 0, none⟩)) ((2 + 4 * n)) ((2 + 4 * n))), (6, .int .i64 (((i : Nat) : Int))), (7, .int .i64 0), (8, .int .i64 (((f : Nat) : Int))), (9, .int .i64 ((((2 + 4 * f + 2 * 0) : Nat) : Int))), (15, .bool (((decide ((((n : Nat) : Int) : Int) < (0 : Int))) || (decide ((96 : Int) < (((n : Nat) : Int) : Int)))))), (23, .bool ((decide ((((i : Nat) : Int) : Int) < (((l.length : Nat) : Int) : Int))))), (30, .bool ((lget l i).neg)), (39, .bool ((decide ((((f : Nat) : Int) : Int) < (((n : Nat) : Int) : Int))))), (54, .bool ((!(lget l i).l.isTrue))), (93, .bool ((!(lget l i).r.isTrue)))] w142 _ .normal from ?_) za (zh.sub ⟨rfl, rfl, rfl, rfl, rfl, rfl, rfl, rfl, rfl, rfl, rfl, rfl, rfl, rfl, trivial⟩)
                    refine WE.next ?_
                    have hSlt : ∀ b, (fun b => b = ob) b → b < w142.heap.size := fun b e => e ▸ hG143.lt
                    refine WC.tail1 (S := ((fun b => b = ob))) [(true, .val (.slice ((some ⟨ob, 0, none⟩)) ((2 + 4 * n)) ((2 + 4 * n)))), (true, .val (.int .i64 ((((2 + 4 * f + 2 * 0) : Nat) : Int)))), (true, .val (.int .i64 (((((2 + 4 * f + 2 * 0) + 1) : Nat) : Int)))), (true, .val (.slice ((some ⟨ob, 0, none⟩)) ((2 + 4 * n)) ((2 + 4 * n)))), (true, .val (.int .i64 ((((2 + 4 * f + 2 * 0) : Nat) : Int)))), (true, .val (.int .i64 (((((2 + 4 * f + 2 * 0) + 1) : Nat) : Int)))), (true, .val (.pointer (some ⟨ob, 0 + (((2 + 4 * f + 2 * 0) + 1)), none⟩))), (true, .val (.int .i64 (((gset ((refS 0 f (lget l i).l (rG (lget l i) (gset (outG n l i) 0 (outG n l i 0 + 1)) f))) ((2 + 4 * f + 2 * 0)) ((((refS 0 f (lget l i).l (rG (lget l i) (gset (outG n l i) 0 (outG n l i 0 + 1)) f)) ((2 + 4 * f + 2 * 0))) + ((((lget l i).r.often f) : Nat) : Int)))) (((2 + 4 * f + 2 * 0) + 1)))))), (true, .val (.slice a l.length c)), (true, .val (.int .i64 (((i : Nat) : Int)))), (true, .val (.pointer (some ⟨b14, o15 + i * 5, none⟩))), (true, .val (.pointer (some ⟨b14, o15 + i * 5 + 3, none⟩))), (true, .val (.agg #[.int .i64 ((lget l i).r.f), .slice ((A18 i)) ((lget l i).r.args.length) ((C19 i))])), (true, .val (.int .i64 (((f : Nat) : Int)))), (true, .val (.int .i64 (((((lget l i).r.deep f 1) : Nat) : Int)))), (true, .val (.int .i64 ((max (((gset ((refS 0 f (lget l i).l (rG (lget l i) (gset (outG n l i) 0 (outG n l i 0 + 1)) f))) ((2 + 4 * f + 2 * 0)) ((((refS 0 f (lget l i).l (rG (lget l i) (gset (outG n l i) 0 (outG n l i 0 + 1)) f)) ((2 + 4 * f + 2 * 0))) + ((((lget l i).r.often f) : Nat) : Int)))) (((2 + 4 * f + 2 * 0) + 1)))) (((((lget l i).r.deep f 1) : Nat) : Int)))))), (true, .val (.pointer (some ⟨ob, 0 + (((2 + 4 * f + 2 * 0) + 1)), none⟩))), (true, .val undef)] [(0, .int .i64 (((n : Nat) : Int))), (1, .slice a l.length c), (4, .slice none 0 0), (5, .slice ((some ⟨ob, 0, none⟩)) ((2 + 4 * n)) ((2 + 4 * n))), (6, .int .i64 (((i : Nat) : Int))), (7, .int .i64 0), (8, .int .i64 (((f : Nat) : Int))), (9, .int .i64 ((((2 + 4 * f + 2 * 0) : Nat) : Int))), (15, .bool (((decide ((((n : Nat) : Int) : Int) < (0 : Int))) || (decide ((96 : Int) < (((n : Nat) : Int) : Int)))))), (23, .bool ((decide ((((i : Nat) : Int) : Int) < (((l.length : Nat) : Int) : Int))))), (30, .bool ((lget l i).neg)), (39, .bool ((decide ((((f : Nat) : Int) : Int) < (((n : Nat) : Int) : Int))))), (54, .bool ((!(lget l i).l.isTrue))), (93, .bool ((!(lget l i).r.isTrue)))] 17 (fun wz => IRow wz 3 ob (2 + 4 * n) (gset ((gset ((refS 0 f (lget l i).l (rG (lget l i) (gset (outG n l i) 0 (outG n l i 0 + 1)) f))) ((2 + 4 * f + 2 * 0)) ((((refS 0 f (lget l i).l (rG (lget l i) (gset (outG n l i) 0 (outG n l i 0 + 1)) f)) ((2 + 4 * f + 2 * 0))) + ((((lget l i).r.often f) : Nat) : Int))))) (((2 + 4 * f + 2 * 0) + 1)) ((max (((gset ((refS 0 f (lget l i).l (rG (lget l i) (gset (outG n l i) 0 (outG n l i 0 + 1)) f))) ((2 + 4 * f + 2 * 0)) ((((refS 0 f (lget l i).l (rG (lget l i) (gset (outG n l i) 0 (outG n l i 0 + 1)) f)) ((2 + 4 * f + 2 * 0))) + ((((lget l i).r.often f) : Nat) : Int)))) (((2 + 4 * f + 2 * 0) + 1)))) (((((lget l i).r.deep f 1) : Nat) : Int)))))) (fun w w' hb h => h.below hb) ⟨rfl, rfl, rfl, rfl, rfl, rfl, rfl, rfl, rfl, rfl, rfl, rfl, rfl, rfl, trivial⟩ (by kernel_rfl) (by kernel_rfl) (by kernel_rfl) (by kernel_rfl) ?_ ?_
                    · refine ⟨.inl ⟨rfl, true, .none rfl, (fun gg b h => by cases h), fun h w => optUndef h, fun zβ za zw zc => ?_⟩, ?_⟩
                      · exact wp_move rfl (zc.kn.ev rfl) ⟨_, rfl, Below.refl _ _, optDef zβ rfl⟩
                      refine ⟨.inl ⟨rfl, true, .none rfl, (fun gg b h => by cases h), fun h w => optUndef h, fun zβ za zw zc => ?_⟩, ?_⟩
                      · exact wp_move rfl (zc.kn.ev rfl) ⟨_, rfl, Below.refl _ _, optDef zβ rfl⟩
                      refine ⟨.inl ⟨rfl, true, .none rfl, (fun gg b h => by cases h), fun h w => optUndef h, fun zβ za zw zc => ?_⟩, ?_⟩
                      · exact addb_3 rfl ((show za.eval (.tmp 110) = za.tmps.getD 110 undef from rfl).trans (optSVal (zc.dep 1 110 (by kernel_rfl) (by decide)) rfl rfl)) (zc.kn.ev rfl) (wrap_eq (by omega) (by omega) (by omega)) ⟨_, rfl, Below.refl _ _, optDef zβ rfl⟩
                      refine ⟨.inl ⟨rfl, true, .none rfl, (fun gg b h => by cases h), fun h w => optUndef h, fun zβ za zw zc => ?_⟩, ?_⟩
                      · exact wp_move rfl (zc.kn.ev rfl) ⟨_, rfl, Below.refl _ _, optDef zβ rfl⟩
                      refine ⟨.inl ⟨rfl, true, .none rfl, (fun gg b h => by cases h), fun h w => optUndef h, fun zβ za zw zc => ?_⟩, ?_⟩
                      · exact wp_move rfl (zc.kn.ev rfl) ⟨_, rfl, Below.refl _ _, optDef zβ rfl⟩
                      refine ⟨.inl ⟨rfl, true, .none rfl, (fun gg b h => by cases h), fun h w => optUndef h, fun zβ za zw zc => ?_⟩, ?_⟩
                      · exact addb_3 rfl ((show za.eval (.tmp 113) = za.tmps.getD 113 undef from rfl).trans (optSVal (zc.dep 4 113 (by kernel_rfl) (by decide)) rfl rfl)) (zc.kn.ev rfl) (wrap_eq (by omega) (by omega) (by omega)) ⟨_, rfl, Below.refl _ _, optDef zβ rfl⟩
                      refine ⟨.inl ⟨rfl, true, .none rfl, (fun gg b h => by cases h), fun h w => optUndef h, fun zβ za zw zc => ?_⟩, ?_⟩
                      · exact ix_27 (k := ((2 + 4 * f + 2 * 0) + 1)) rfl ((show za.eval (.tmp 112) = za.tmps.getD 112 undef from rfl).trans (optSVal (zc.dep 3 112 (by kernel_rfl) (by decide)) rfl rfl)) rfl ((show za.eval (.tmp 114) = za.tmps.getD 114 undef from rfl).trans (optSVal (zc.dep 5 114 (by kernel_rfl) (by decide)) rfl rfl)) (by first | omega | (simp; omega)) ⟨_, rfl, Below.refl _ _, optDef zβ rfl⟩
                      refine ⟨.inl ⟨rfl, true, .none rfl, (fun gg b h => by cases h), fun h w => optUndef h, fun zβ za zw zc => ?_⟩, ?_⟩
                      · exact ld_3 rfl ((show za.eval (.tmp 115) = za.tmps.getD 115 undef from rfl).trans (optSVal (zc.dep 6 115 (by kernel_rfl) (by decide)) rfl rfl)) (bkeeps (zc.early (by kernel_rfl)) _ _ (IRow.cellAt hG143 (by omega) (by omega))) ⟨_, rfl, Below.refl _ _, optDef zβ rfl⟩
                      refine ⟨.inl ⟨rfl, true, .none rfl, (fun gg b h => by cases h), fun h w => optUndef h, fun zβ za zw zc => ?_⟩, ?_⟩
                      · exact wp_move rfl (zc.kn.ev rfl) ⟨_, rfl, Below.refl _ _, optDef zβ rfl⟩
                      refine ⟨.inl ⟨rfl, true, .none rfl, (fun gg b h => by cases h), fun h w => optUndef h, fun zβ za zw zc => ?_⟩, ?_⟩
                      · exact wp_move rfl (zc.kn.ev rfl) ⟨_, rfl, Below.refl _ _, optDef zβ rfl⟩
                      refine ⟨.inl ⟨rfl, true, .none rfl, (fun gg b h => by cases h), fun h w => optUndef h, fun zβ za zw zc => ?_⟩, ?_⟩
                      · exact ix_23 (k := i) rfl ((show za.eval (.tmp 117) = za.tmps.getD 117 undef from rfl).trans (optSVal (zc.dep 8 117 (by kernel_rfl) (by decide)) rfl rfl)) (ha20 i (by first | omega | (simp; omega))) ((show za.eval (.tmp 118) = za.tmps.getD 118 undef from rfl).trans (optSVal (zc.dep 9 118 (by kernel_rfl) (by decide)) rfl rfl)) (by first | omega | (simp; omega)) ⟨_, rfl, Below.refl _ _, optDef zβ rfl⟩
                      refine ⟨.inl ⟨rfl, true, .none rfl, (fun gg b h => by cases h), fun h w => optUndef h, fun zβ za zw zc => ?_⟩, ?_⟩
                      · exact fld_34_2 rfl ((show za.eval (.tmp 119) = za.tmps.getD 119 undef from rfl).trans (optSVal (zc.dep 10 119 (by kernel_rfl) (by decide)) rfl rfl)) ⟨_, rfl, Below.refl _ _, optDef zβ rfl⟩
                      refine ⟨.inl ⟨rfl, true, .none rfl, (fun gg b h => by cases h), fun h w => optUndef h, fun zβ za zw zc => ?_⟩, ?_⟩
                      · exact ld_32 rfl ((show za.eval (.tmp 120) = za.tmps.getD 120 undef from rfl).trans (optSVal (zc.dep 11 120 (by kernel_rfl) (by decide)) rfl rfl)) (bkeeps (bstep hb145 (zc.early (by kernel_rfl))) _ _ (hc21 i (by first | omega | (simp; omega))).2.2.2.1) (bkeeps (bstep hb145 (zc.early (by kernel_rfl))) _ _ (hc21 i (by first | omega | (simp; omega))).2.2.2.2.1) ⟨_, rfl, Below.refl _ _, optDef zβ rfl⟩
                      refine ⟨.inl ⟨rfl, true, .none rfl, (fun gg b h => by cases h), fun h w => optUndef h, fun zβ za zw zc => ?_⟩, ?_⟩
                      · exact wp_move rfl (zc.kn.ev rfl) ⟨_, rfl, Below.refl _ _, optDef zβ rfl⟩
                      refine ⟨.inl ⟨rfl, true, .none rfl, (fun gg b h => by cases h), fun h w => optUndef h, fun zβ za zw zc => ?_⟩, ?_⟩
                      · exact wp_call (by kernel_rfl) rfl (hv3 ((show za.eval (.tmp 121) = za.tmps.getD 121 undef from rfl).trans (optSVal (zc.dep 12 121 (by kernel_rfl) (by decide)) rfl rfl)) ((show za.eval (.tmp 122) = za.tmps.getD 122 undef from rfl).trans (optSVal (zc.dep 13 122 (by kernel_rfl) (by decide)) rfl rfl)) (zc.kn.ev rfl)) (deep_any f (by omega) ((lget l i).r) 1 _ _ (by have z := (hpr hil); omega) (hpr hil) (IsT.below (bstep hb145 (zc.early (by kernel_rfl))) (InT.isT (hc21 i (by first | omega | (simp; omega))).2.2.2.2.2.2))) (fun v w' h => ⟨v, rfl, h.2, optDef zβ h.1⟩)
                      refine ⟨.inl ⟨rfl, true, .none rfl, (fun gg b h => by cases h), fun h w => optUndef h, fun zβ za zw zc => ?_⟩, ?_⟩
                      · exact wp_max3 rfl ((show za.eval (.tmp 116) = za.tmps.getD 116 undef from rfl).trans (optSVal (zc.dep 7 116 (by kernel_rfl) (by decide)) rfl rfl)) ((show za.eval (.tmp 123) = za.tmps.getD 123 undef from rfl).trans (optSVal (zc.dep 14 123 (by kernel_rfl) (by decide)) rfl rfl)) rfl ⟨_, rfl, Below.refl _ _, optDef zβ rfl⟩
                      refine ⟨.inl ⟨rfl, true, .none rfl, (fun gg b h => by cases h), fun h w => optUndef h, fun zβ za zw zc => ?_⟩, ?_⟩
                      · exact ix_27 (k := ((2 + 4 * f + 2 * 0) + 1)) rfl ((show za.eval (.tmp 109) = za.tmps.getD 109 undef from rfl).trans (optSVal (zc.dep 0 109 (by kernel_rfl) (by decide)) rfl rfl)) rfl ((show za.eval (.tmp 111) = za.tmps.getD 111 undef from rfl).trans (optSVal (zc.dep 2 111 (by kernel_rfl) (by decide)) rfl rfl)) (by first | omega | (simp; omega)) ⟨_, rfl, Below.refl _ _, optDef zβ rfl⟩
                      refine ⟨.inr ⟨rfl, rfl, fun za zw zc => ?_⟩, ?_⟩
                      · have zm := hG143.below zc.below
                        exact st_3 rfl ((show za.eval (.tmp 125) = za.tmps.getD 125 undef from rfl).trans (optSVal (zc.dep 16 125 (by kernel_rfl) (by decide)) rfl rfl)) ((show za.eval (.tmp 124) = za.tmps.getD 124 undef from rfl).trans (optSVal (zc.dep 15 124 (by kernel_rfl) (by decide)) rfl rfl)) zm.blk (IRow.size zm (by omega)) (fun v => ⟨v, rfl, IRow.setAt zm _ (by omega) (by omega), .ofUpd (Upd.at_ _ _ _ _) rfl⟩)
                      exact trivial
                    · intro za w147 zh hG148 hc149 zu
                      have hb150 := chg_below hb145 hc149 (fun b hb => (by (try dsimp only at *); omega))
                      have hM151 := IRow.congr hG148 (refS_not (way := 0) (f := f) htR).symm
                      clear zu
                      refine (show WE _ [(0, .int .i64 (((n : Nat) : Int))), (1, .slice a l.length c), (4, .slice none 0 0), (5, .slice ((some ⟨ob, 0, none⟩)) ((2 + 4 * n)) ((2 + 4 * n))), (6, .int .i64 (((i : Nat) : Int))), (7, .int .i64 0), (8, .int .i64 (((f : Nat) : Int))), (9, .int .i64 ((((2 + 4 * f + 2 * 0) : Nat) : Int))), (15, .bool (((decide ((((n : Nat) : Int) : Int) < (0 : Int))) || (decide ((96 : Int) < (((n : Nat) : Int) : Int)))))), (23, .bool ((decide ((((i : Nat) : Int) : Int) < (((l.length : Nat) : Int) : Int))))), (30, .bool ((lget l i).neg)), (39, .bool ((decide ((((f : Nat) : Int) : Int) < (((n : Nat) : Int) : Int))))), (54, .bool ((!(lget l i).l.isTrue))), (93, .bool ((!(lget l i).r.isTrue)))] w147 _ .normal from ?_) za (zh.sub ⟨rfl, rfl, rfl, rfl, rfl, rfl, rfl, rfl, rfl, rfl, rfl, rfl, rfl, rfl, trivial⟩)
                      refine WE.blockNormal ?_
                      refine WE.next ?_
                      refine WC.region ?_
                      refine WL.val (.int .i64 (((f : Nat) : Int))) rfl rfl rfl (fun za zC zh zk => wp_move rfl (zh.ev rfl) zk) ?_
                      refine WL.val (.int .i64 ((((f + 1) : Nat) : Int))) rfl rfl rfl (fun za zC zh zk => addb_3 rfl (zh.ev rfl) (zh.ev rfl) (wrap_eq (by omega) (by omega) (by omega)) zk) ?_
                      refine WL.val (.int .i64 ((((f + 1) : Nat) : Int))) rfl rfl rfl (fun za zC zh zk => wp_assign rfl (zh.ev rfl) zk) ?_
                      refine WL.nil (WE.sub (K' := [(0, .int .i64 (((n : Nat) : Int))), (1, .slice a l.length c), (4, .slice none 0 0), (5, .slice ((some ⟨ob, 0, none⟩)) ((2 + 4 * n)) ((2 + 4 * n))), (6, .int .i64 (((i : Nat) : Int))), (7, .int .i64 0), (8, .int .i64 ((((f + 1) : Nat) : Int))), (9, .int .i64 ((((2 + 4 * f + 2 * 0) : Nat) : Int))), (15, .bool (((decide ((((n : Nat) : Int) : Int) < (0 : Int))) || (decide ((96 : Int) < (((n : Nat) : Int) : Int)))))), (23, .bool ((decide ((((i : Nat) : Int) : Int) < (((l.length : Nat) : Int) : Int))))), (30, .bool ((lget l i).neg)), (39, .bool ((decide ((((f : Nat) : Int) : Int) < (((n : Nat) : Int) : Int))))), (54, .bool ((!(lget l i).l.isTrue))), (93, .bool ((!(lget l i).r.isTrue)))]) ⟨rfl, rfl, rfl, rfl, rfl, rfl, rfl, rfl, rfl, rfl, rfl, rfl, rfl, rfl, trivial⟩ ?_)
                      refine WE.round (f + 1) ⟨rfl, rfl, rfl, rfl, rfl, rfl, rfl, rfl, rfl, rfl, trivial⟩ ?_ ?_
                      · exact ⟨by omega, hb150, (IRow.congr hM151 (by rw [rG_succ, ← hway]))⟩
                      · omega
                · have h138 : ¬ (¬ ((lget l i).r.isTrue = true)) := by simpa using h138
                  have htR : (lget l i).r.isTrue = true := by simpa using h138
                  have ho153 := hM133.below hq136
                  have hM152 := IRow.congr ho153 (refS_true (t := (lget l i).r) (way := 0) (f := f) htR).symm
                  refine WC.skip ?_
                  refine WE.blockNormal ?_
                  refine WE.next ?_
                  refine WC.region ?_
                  refine WL.val (.int .i64 (((f : Nat) : Int))) rfl rfl rfl (fun za zC zh zk => wp_move rfl (zh.ev rfl) zk) ?_
                  refine WL.val (.int .i64 ((((f + 1) : Nat) : Int))) rfl rfl rfl (fun za zC zh zk => addb_3 rfl (zh.ev rfl) (zh.ev rfl) (wrap_eq (by omega) (by omega) (by omega)) zk) ?_
                  refine WL.val (.int .i64 ((((f + 1) : Nat) : Int))) rfl rfl rfl (fun za zC zh zk => wp_assign rfl (zh.ev rfl) zk) ?_
                  refine WL.nil (WE.sub (K' := [(0, .int .i64 (((n : Nat) : Int))), (1, .slice a l.length c), (4, .slice none 0 0), (5, .slice ((some ⟨ob, 0, none⟩)) ((2 + 4 * n)) ((2 + 4 * n))), (6, .int .i64 (((i : Nat) : Int))), (7, .int .i64 0), (8, .int .i64 ((((f + 1) : Nat) : Int))), (9, .int .i64 ((((2 + 4 * f + 2 * 0) : Nat) : Int))), (15, .bool (((decide ((((n : Nat) : Int) : Int) < (0 : Int))) || (decide ((96 : Int) < (((n : Nat) : Int) : Int)))))), (23, .bool ((decide ((((i : Nat) : Int) : Int) < (((l.length : Nat) : Int) : Int))))), (30, .bool ((lget l i).neg)), (39, .bool ((decide ((((f : Nat) : Int) : Int) < (((n : Nat) : Int) : Int))))), (54, .bool ((!(lget l i).l.isTrue))), (93, .bool ((!(lget l i).r.isTrue)))]) ⟨rfl, rfl, rfl, rfl, rfl, rfl, rfl, rfl, rfl, rfl, rfl, rfl, rfl, rfl, trivial⟩ ?_)
                  refine WE.round (f + 1) ⟨rfl, rfl, rfl, rfl, rfl, rfl, rfl, rfl, rfl, rfl, trivial⟩ ?_ ?_
                  · have hb154 : Below w.heap.size w w137 := (bstep hb135 hq136)
                    exact ⟨by omega, hb154, (IRow.congr hM152 (by rw [rG_succ, ← hway]))⟩
                  · omega
            · have h97 : ¬ ((((f : Nat) : Int) : Int) < (((n : Nat) : Int) : Int)) := by simpa using h97
              have hfe : f = n := by omega
              refine WC.exit ?_
              refine WE.thenExit ?_
              refine WE.thenExit ?_
              refine WE.blockIs rfl ?_
              refine WE.blockNormal ?_
              refine WE.next ?_
              refine WC.region ?_
              refine WL.val (.int .i64 (((i : Nat) : Int))) rfl rfl rfl (fun za zC zh zk => wp_move rfl (zh.ev rfl) zk) ?_
              refine WL.val (.int .i64 ((((i + 1) : Nat) : Int))) rfl rfl rfl (fun za zC zh zk => addb_3 rfl (zh.ev rfl) (zh.ev rfl) (wrap_eq (by omega) (by omega) (by omega)) zk) ?_
              refine WL.val (.int .i64 ((((i + 1) : Nat) : Int))) rfl rfl rfl (fun za zC zh zk => wp_assign rfl (zh.ev rfl) zk) ?_
              refine WL.nil (WE.sub (K' := [(0, .int .i64 (((n : Nat) : Int))), (1, .slice a l.length c), (4, .slice none 0 0), (5, .slice ((some ⟨ob, 0, none⟩)) ((2 + 4 * n)) ((2 + 4 * n))), (6, .int .i64 ((((i + 1) : Nat) : Int))), (7, .int .i64 0), (8, .int .i64 (((f : Nat) : Int))), (15, .bool (((decide ((((n : Nat) : Int) : Int) < (0 : Int))) || (decide ((96 : Int) < (((n : Nat) : Int) : Int)))))), (23, .bool ((decide ((((i : Nat) : Int) : Int) < (((l.length : Nat) : Int) : Int))))), (30, .bool ((lget l i).neg)), (39, .bool ((decide ((((f : Nat) : Int) : Int) < (((n : Nat) : Int) : Int)))))]) ⟨rfl, rfl, rfl, rfl, rfl, rfl, rfl, rfl, rfl, rfl, rfl, trivial⟩ ?_)
              refine WE.round (i + 1) ⟨rfl, rfl, rfl, rfl, rfl, rfl, trivial⟩ ?_ ?_
              · exact ⟨by omega, (fun k hk => by rw [outG_succ (by omega), lit_rG hg0 hway]; have z := rG_ev hg1 hg1b (hpl (by omega)) (hpr (by omega)) n k hk; omega), hb95, (IRow.congr ho96 (by rw [outG_succ (by omega), lit_rG hg0 hway, ← hfe]))⟩
              · omega
      · have h13 : ¬ ((((i : Nat) : Int) : Int) < (((l.length : Nat) : Int) : Int)) := by simpa using h13
        refine WC.exit ?_
        refine WE.thenExit ?_
        refine WE.thenExit ?_
        refine WE.blockIs rfl ?_
        refine WE.next ?_
        refine WC.seq ?_
        refine WC.region ?_
        refine WL.val (.slice ((some ⟨ob, 0, none⟩)) ((2 + 4 * n)) ((2 + 4 * n))) rfl rfl rfl (fun za zC zh zk => wp_move rfl (zh.ev rfl) zk) ?_
        refine WL.val (.slice ((some ⟨ob, 0, none⟩)) ((2 + 4 * n)) ((2 + 4 * n))) rfl rfl rfl (fun za zC zh zk => wp_assign rfl (zh.ev rfl) zk) ?_
        refine WL.nil (WE.sub (K' := [(0, .int .i64 (((n : Nat) : Int))), (1, .slice a l.length c), (4, .slice ((some ⟨ob, 0, none⟩)) ((2 + 4 * n)) ((2 + 4 * n))), (5, .slice ((some ⟨ob, 0, none⟩)) ((2 + 4 * n)) ((2 + 4 * n))), (6, .int .i64 (((i : Nat) : Int))), (15, .bool (((decide ((((n : Nat) : Int) : Int) < (0 : Int))) || (decide ((96 : Int) < (((n : Nat) : Int) : Int)))))), (23, .bool ((decide ((((i : Nat) : Int) : Int) < (((l.length : Nat) : Int) : Int)))))]) ⟨rfl, rfl, rfl, rfl, rfl, rfl, rfl, trivial⟩ ?_)
        refine WE.next ?_
        refine WC.ret ?_
        refine WE.ret1 rfl rfl ?_
        refine ⟨_, rfl, ⟨ob, rfl, IRow.congr ho12 (outG_end (by omega)), hob9⟩, hb11⟩

set_option maxRecDepth 100000 in
theorem feat_bad (n : Int) (hn : n < 0 ∨ 96 < n) (a : Option Addr) (m c : Nat) (w : World) : Calls Try.prog 11 #[.int .i64 n, .slice a m c] w (Ret fun v' w' => v' = .slice none 0 0 ∧ Below w.heap.size w w') := by
  refine Calls.walk (l := [.int .i64 n, .slice a m c]) Try.func11 rfl (by kernel_rfl) ?_
  refine WC.sub (K' := [(0, .int .i64 n), (1, .slice a m c)]) ⟨rfl, rfl, trivial⟩ ?_
  refine WC.seq ?_
  refine WC.region ?_
  refine WL.step (post := NewBlk w 3 #[.int .i64 n]) rfl rfl rfl (fun za zC zh zk => box_3 rfl (zh.ev rfl) (zk _ _ (newBlk _ _ _))) ?_
  rintro _ w1 ⟨g2, rfl, hg3, hB4, hb5, hz6⟩
  have hl7 : w.heap.size ≤ g2 := by omega
  refine WL.val (.slice none 0 0) rfl rfl rfl (fun za zC zh zk => wp_assign rfl (zh.ev rfl) zk) ?_
  refine WL.nil (WE.sub (K' := [(0, .int .i64 n), (1, .slice a m c), (2, .pointer (some ⟨g2, 0, none⟩)), (4, .slice none 0 0)]) ⟨rfl, rfl, rfl, rfl, trivial⟩ ?_)
  refine WE.next ?_
  refine WC.seq ?_
  refine WC.seq ?_
  refine WC.opt [(true, .val (.int .i64 n)), (true, .val (.bool ((decide ((n : Int) < (0 : Int)))))), (true, .val (.bool ((decide ((n : Int) < (0 : Int)))))), ((true && !(decide ((n : Int) < (0 : Int)))), .val (.int .i64 n)), ((true && !(decide ((n : Int) < (0 : Int)))), .val (.bool ((decide ((96 : Int) < (n : Int)))))), (true, .val (.bool (((decide ((n : Int) < (0 : Int))) || (decide ((96 : Int) < (n : Int)))))))] [(0, .int .i64 n), (1, .slice a m c), (2, .pointer (some ⟨g2, 0, none⟩)), (4, .slice none 0 0)] ⟨rfl, rfl, rfl, rfl, trivial⟩ (by kernel_rfl) (by kernel_rfl) (by kernel_rfl) ?_ ?_
  · refine ⟨⟨true, .none rfl, fun h w => optUndef h, fun zβ za zw zc => ?_⟩, ?_⟩
    · exact ld_3 rfl (zc.kn.ev rfl) (bkeeps zc.below _ _ ((hB4.cell 0).trans rfl)) ⟨_, rfl, Below.refl _ _, optDef zβ rfl⟩
    refine ⟨⟨true, .none rfl, fun h w => optUndef h, fun zβ za zw zc => ?_⟩, ?_⟩
    · exact lss_3 rfl ((show za.eval (.tmp 14) = za.tmps.getD 14 undef from rfl).trans (optVal (zc.dep 0 14 (by kernel_rfl)) rfl rfl)) (zc.kn.ev rfl) ⟨_, rfl, Below.refl _ _, optDef zβ rfl⟩
    refine ⟨⟨true, .none rfl, fun h w => optUndef h, fun zβ za zw zc => ?_⟩, ?_⟩
    · exact wp_move rfl ((show za.eval (.tmp 15) = za.tmps.getD 15 undef from rfl).trans (optVal (zc.dep 1 15 (by kernel_rfl)) rfl rfl)) ⟨_, rfl, Below.refl _ _, optDef zβ rfl⟩
    refine ⟨⟨(true && !(decide ((n : Int) < (0 : Int)))), .no (c := (decide ((n : Int) < (0 : Int)))) (d := true) rfl (fun v w h => h), fun h w => optUndef h, fun zβ za zw zc => ?_⟩, ?_⟩
    · exact ld_3 rfl (zc.kn.ev rfl) (bkeeps zc.below _ _ ((hB4.cell 0).trans rfl)) ⟨_, rfl, Below.refl _ _, optDef zβ rfl⟩
    refine ⟨⟨(true && !(decide ((n : Int) < (0 : Int)))), .no (c := (decide ((n : Int) < (0 : Int)))) (d := true) rfl (fun v w h => h), fun h w => optUndef h, fun zβ za zw zc => ?_⟩, ?_⟩
    · exact gtr_3 rfl ((show za.eval (.tmp 17) = za.tmps.getD 17 undef from rfl).trans (optVal (zc.dep 3 17 (by kernel_rfl)) rfl zβ)) (zc.kn.ev rfl) ⟨_, rfl, Below.refl _ _, optDef zβ rfl⟩
    refine ⟨⟨true, .none rfl, fun h w => optUndef h, fun zβ za zw zc => ?_⟩, ?_⟩
    · exact wp_or rfl ((show za.eval (.tmp 16) = za.tmps.getD 16 undef from rfl).trans (optVal (zc.dep 2 16 (by kernel_rfl)) rfl rfl)) (fun hp => ((show za.eval (.tmp 18) = za.tmps.getD 18 undef from rfl).trans (optVal (zc.dep 4 18 (by kernel_rfl)) rfl (bMkN zβ hp)))) ⟨_, rfl, Below.refl _ _, optDef zβ rfl⟩
    exact trivial
  · intro za w8 zh hb9 zu
    have zh := zh.cons (d := 19) (v := .bool (((decide ((n : Int) < (0 : Int))) || (decide ((96 : Int) < (n : Int)))))) (optVal (zu 5 19 (by kernel_rfl)) rfl rfl)
    clear zu
    refine (show WE _ [(0, .int .i64 n), (1, .slice a m c), (2, .pointer (some ⟨g2, 0, none⟩)), (4, .slice none 0 0), (19, .bool (((decide ((n : Int) < (0 : Int))) || (decide ((96 : Int) < (n : Int))))))] w8 _ .normal from ?_) za (zh.sub ⟨rfl, rfl, rfl, rfl, rfl, trivial⟩)
    refine WE.next ?_
    refine WC.condT rfl (by simp; omega) ?_
    refine WC.seq ?_
    refine WC.region ?_
    refine WL.val (.slice none 0 0) rfl rfl rfl (fun za zC zh zk => wp_assign rfl (zh.ev rfl) zk) ?_
    refine WL.nil (WE.sub (K' := [(0, .int .i64 n), (1, .slice a m c), (2, .pointer (some ⟨g2, 0, none⟩)), (4, .slice none 0 0), (19, .bool (((decide ((n : Int) < (0 : Int))) || (decide ((96 : Int) < (n : Int))))))]) ⟨rfl, rfl, rfl, rfl, rfl, trivial⟩ ?_)
    refine WE.next ?_
    refine WC.ret ?_
    refine WE.thenRet ?_
    refine WE.ret1 rfl rfl ?_
    have hb10 : Below w.heap.size w w8 := (bstep hb5 hb9)
    exact ⟨_, rfl, rfl, hb10⟩

set_option maxRecDepth 100000 in
theorem rfeat_bad (n : Int) (hn : n < 0 ∨ 96 < n) (a : Option Addr) (m c : Nat) (w : World) : Calls Try.prog 12 #[.int .i64 n, .slice a m c] w (Ret fun v' w' => v' = .slice none 0 0 ∧ Below w.heap.size w w') := by
  refine Calls.walk (l := [.int .i64 n, .slice a m c]) Try.func12 rfl (by kernel_rfl) ?_
  refine WC.sub (K' := [(0, .int .i64 n), (1, .slice a m c)]) ⟨rfl, rfl, trivial⟩ ?_
  refine WC.seq ?_
  refine WC.region ?_
  refine WL.val (.slice none 0 0) rfl rfl rfl (fun za zC zh zk => wp_assign rfl (zh.ev rfl) zk) ?_
  refine WL.nil (WE.sub (K' := [(0, .int .i64 n), (1, .slice a m c), (4, .slice none 0 0)]) ⟨rfl, rfl, rfl, trivial⟩ ?_)
  refine WE.next ?_
  refine WC.seq ?_
  refine WC.seq ?_
  refine WC.opt [(true, .val (.int .i64 n)), (true, .val (.bool ((decide ((n : Int) < (0 : Int)))))), (true, .val (.bool ((decide ((n : Int) < (0 : Int)))))), ((true && !(decide ((n : Int) < (0 : Int)))), .val (.int .i64 n)), ((true && !(decide ((n : Int) < (0 : Int)))), .val (.bool ((decide ((96 : Int) < (n : Int)))))), (true, .val (.bool (((decide ((n : Int) < (0 : Int))) || (decide ((96 : Int) < (n : Int)))))))] [(0, .int .i64 n), (1, .slice a m c), (4, .slice none 0 0)] ⟨rfl, rfl, rfl, trivial⟩ (by kernel_rfl) (by kernel_rfl) (by kernel_rfl) ?_ ?_
  · refine ⟨⟨true, .none rfl, fun h w => optUndef h, fun zβ za zw zc => ?_⟩, ?_⟩
    · exact wp_move rfl (zc.kn.ev rfl) ⟨_, rfl, Below.refl _ _, optDef zβ rfl⟩
    refine ⟨⟨true, .none rfl, fun h w => optUndef h, fun zβ za zw zc => ?_⟩, ?_⟩
    · exact lss_3 rfl ((show za.eval (.tmp 10) = za.tmps.getD 10 undef from rfl).trans (optVal (zc.dep 0 10 (by kernel_rfl)) rfl rfl)) (zc.kn.ev rfl) ⟨_, rfl, Below.refl _ _, optDef zβ rfl⟩
    refine ⟨⟨true, .none rfl, fun h w => optUndef h, fun zβ za zw zc => ?_⟩, ?_⟩
    · exact wp_move rfl ((show za.eval (.tmp 11) = za.tmps.getD 11 undef from rfl).trans (optVal (zc.dep 1 11 (by kernel_rfl)) rfl rfl)) ⟨_, rfl, Below.refl _ _, optDef zβ rfl⟩
    refine ⟨⟨(true && !(decide ((n : Int) < (0 : Int)))), .no (c := (decide ((n : Int) < (0 : Int)))) (d := true) rfl (fun v w h => h), fun h w => optUndef h, fun zβ za zw zc => ?_⟩, ?_⟩
    · exact wp_move rfl (zc.kn.ev rfl) ⟨_, rfl, Below.refl _ _, optDef zβ rfl⟩
    refine ⟨⟨(true && !(decide ((n : Int) < (0 : Int)))), .no (c := (decide ((n : Int) < (0 : Int)))) (d := true) rfl (fun v w h => h), fun h w => optUndef h, fun zβ za zw zc => ?_⟩, ?_⟩
    · exact gtr_3 rfl ((show za.eval (.tmp 13) = za.tmps.getD 13 undef from rfl).trans (optVal (zc.dep 3 13 (by kernel_rfl)) rfl zβ)) (zc.kn.ev rfl) ⟨_, rfl, Below.refl _ _, optDef zβ rfl⟩
    refine ⟨⟨true, .none rfl, fun h w => optUndef h, fun zβ za zw zc => ?_⟩, ?_⟩
    · exact wp_or rfl ((show za.eval (.tmp 12) = za.tmps.getD 12 undef from rfl).trans (optVal (zc.dep 2 12 (by kernel_rfl)) rfl rfl)) (fun hp => ((show za.eval (.tmp 14) = za.tmps.getD 14 undef from rfl).trans (optVal (zc.dep 4 14 (by kernel_rfl)) rfl (bMkN zβ hp)))) ⟨_, rfl, Below.refl _ _, optDef zβ rfl⟩
    exact trivial
  · intro za w1 zh hb2 zu
    have zh := zh.cons (d := 15) (v := .bool (((decide ((n : Int) < (0 : Int))) || (decide ((96 : Int) < (n : Int)))))) (optVal (zu 5 15 (by kernel_rfl)) rfl rfl)
    clear zu
    refine (show WE _ [(0, .int .i64 n), (1, .slice a m c), (4, .slice none 0 0), (15, .bool (((decide ((n : Int) < (0 : Int))) || (decide ((96 : Int) < (n : Int))))))] w1 _ .normal from ?_) za (zh.sub ⟨rfl, rfl, rfl, rfl, trivial⟩)
    refine WE.next ?_
    refine WC.condT rfl (by simp; omega) ?_
    refine WC.seq ?_
    refine WC.region ?_
    refine WL.val (.slice none 0 0) rfl rfl rfl (fun za zC zh zk => wp_assign rfl (zh.ev rfl) zk) ?_
    refine WL.nil (WE.sub (K' := [(0, .int .i64 n), (1, .slice a m c), (4, .slice none 0 0), (15, .bool (((decide ((n : Int) < (0 : Int))) || (decide ((96 : Int) < (n : Int))))))]) ⟨rfl, rfl, rfl, rfl, trivial⟩ ?_)
    refine WE.next ?_
    refine WC.ret ?_
    refine WE.thenRet ?_
    refine WE.ret1 rfl rfl ?_
    exact ⟨_, rfl, rfl, hb2⟩

theorem feats_of {F : Nat} {n : Int} {l : List Li} {w : World} {a : Option Addr} {c : Nat}
    (h1 : ∀ N : Nat, N ≤ 96 → Calls Try.prog F #[.int .i64 (N : Int), .slice a l.length c] w (Ret fun v' w' => (∃ ob, v' = .slice (some ⟨ob, 0, none⟩) (2 + 4 * N) (2 + 4 * N) ∧ IRow w' 3 ob (2 + 4 * N) (featP N l) ∧ w.heap.size ≤ ob) ∧ Below w.heap.size w w'))
    (h2 : n < 0 ∨ 96 < n → Calls Try.prog F #[.int .i64 n, .slice a l.length c] w (Ret fun v' w' => v' = .slice none 0 0 ∧ Below w.heap.size w w')) :
    Calls Try.prog F #[.int .i64 n, .slice a l.length c] w (Ret fun v' w' => (∃ a' c', v' = .slice a' (featsI n l).length c' ∧ Nums w' (featsI n l) a') ∧ Below w.heap.size w w') := by
  by_cases h : n < 0 ∨ 96 < n
  · refine (h2 h).mono ?_
    rintro e w' ⟨v, rfl, rfl, hb⟩
    rw [featsI_no h]
    exact ⟨_, rfl, ⟨none, 0, rfl, Nums.nil⟩, hb⟩
  · obtain ⟨N, rfl⟩ : ∃ N : Nat, n = N := ⟨n.toNat, by omega⟩
    refine (h1 N (by omega)).mono ?_
    rintro e w' ⟨v, rfl, ⟨ob, rfl, hM, _⟩, hb⟩
    rw [featsI_nat (by omega)]
    exact ⟨_, rfl, ⟨_, _, by rw [List.length_map, List.length_range], hM.nums⟩, hb⟩
theorem feats_any (n : Int) (l : List Li) (w : World) (a : Option Addr) (c : Nat) (hl : IsCl w l a c) (hz : l.length ≤ 1048576) : Calls Try.prog 11 #[.int .i64 n, .slice a l.length c] w (Ret fun v' w' => (∃ a' c', v' = .slice a' (featsI n l).length c' ∧ Nums w' (featsI n l) a') ∧ Below w.heap.size w w') :=
  feats_of (fun N h => feat_nat N h l w a c hl hz) (fun h => feat_bad n h a _ c w)
theorem rfeats_any (n : Int) (l : List Li) (w : World) (a : Option Addr) (c : Nat) (hl : IsCl w l a c) (hz : l.length ≤ 1048576) : Calls Try.prog 12 #[.int .i64 n, .slice a l.length c] w (Ret fun v' w' => (∃ a' c', v' = .slice a' (featsI n l).length c' ∧ Nums w' (featsI n l) a') ∧ Below w.heap.size w w') :=
  feats_of (fun N h => rfeat_nat N h l w a c hl hz) (fun h => rfeat_bad n h a _ c w)
theorem featsI_len (n : Int) (c d : List Li) : (featsI n c).length = (featsI n d).length := by unfold featsI; split <;> simp
theorem featsI_le (n : Int) (c : List Li) : (featsI n c).length ≤ 1000 := by
  unfold featsI; split
  · rw [List.length_map, List.length_range]; omega
  · simp
def mayI (n : Int) (c d : List Li) : Bool := decide (0 ≤ n) && decide (n ≤ 96) && mayB (featsI n c) (featsI n d)
set_option maxRecDepth 100000 in
theorem may_any (n : Int) (l d : List Li) (w : World) (a b : Option Addr) (c e : Nat) (hl : IsCl w l a c) (hd : IsCl w d b e) (hz : l.length ≤ 1048576) (hz2 : d.length ≤ 1048576) : Calls Try.prog 13 #[.int .i64 n, .slice a l.length c, .slice b d.length e] w (Ret fun v' w' => v' = .bool (mayI n l d) ∧ Below w.heap.size w w') := by
  refine Calls.walk (l := [.int .i64 n, .slice a l.length c, .slice b d.length e]) Try.func13 rfl (by kernel_rfl) ?_
  refine WC.sub (K' := [(0, .int .i64 n), (1, .slice a l.length c), (2, .slice b d.length e)]) ⟨rfl, rfl, rfl, trivial⟩ ?_
  refine WC.seq ?_
  refine WC.region ?_
  refine WL.val (.bool false) rfl rfl rfl (fun za zC zh zk => wp_assign rfl (zh.ev rfl) zk) ?_
  refine WL.nil (WE.sub (K' := [(0, .int .i64 n), (1, .slice a l.length c), (2, .slice b d.length e), (6, .bool false)]) ⟨rfl, rfl, rfl, rfl, trivial⟩ ?_)
  refine WE.next ?_
  refine WC.seq ?_
  refine WC.region ?_
  refine WL.val (.int .i64 n) rfl rfl rfl (fun za zC zh zk => wp_move rfl (zh.ev rfl) zk) ?_
  refine WL.val (.bool ((decide ((0 : Int) ≤ (n : Int))))) rfl rfl rfl (fun za zC zh zk => geq_3 rfl (zh.ev rfl) (zh.ev rfl) zk) ?_
  refine WL.val (.bool ((decide ((0 : Int) ≤ (n : Int))))) rfl rfl rfl (fun za zC zh zk => wp_move rfl (zh.ev rfl) zk) ?_
  refine bool_split ((decide ((0 : Int) ≤ (n : Int)))) (fun h1 => ?_) (fun h1 => ?_)
  · refine WL.sub (K' := [(0, .int .i64 n), (1, .slice a l.length c), (2, .slice b d.length e), (6, .bool false), (7, .int .i64 n), (8, .bool ((decide ((0 : Int) ≤ (n : Int))))), (9, .bool true)]) ⟨rfl, rfl, rfl, rfl, rfl, rfl, (by exact congrArg (fun z => some (Value.bool z)) h1), trivial⟩ ?_
    have h1 : (0 : Int) ≤ (n : Int) := by simpa using h1
    refine WL.want (d := 9) rfl rfl rfl ?_
    refine WL.val (.int .i64 n) rfl rfl rfl (fun za zC zh zk => wp_move rfl (zh.ev rfl) zk) ?_
    refine WL.want (d := 9) rfl rfl rfl ?_
    refine WL.val (.bool ((decide ((n : Int) ≤ (96 : Int))))) rfl rfl rfl (fun za zC zh zk => leq_3 rfl (zh.ev rfl) (zh.ev rfl) zk) ?_
    refine WL.val (.bool ((decide ((n : Int) ≤ (96 : Int))))) rfl rfl rfl (fun za zC zh zk => wp_pickT rfl (zh.ev rfl) (zh.ev rfl) zk) ?_
    refine WL.val (.bool ((decide ((n : Int) ≤ (96 : Int))))) rfl rfl rfl (fun za zC zh zk => wp_move rfl (zh.ev rfl) zk) ?_
    refine bool_split ((decide ((n : Int) ≤ (96 : Int)))) (fun h2 => ?_) (fun h2 => ?_)
    · refine WL.sub (K' := [(0, .int .i64 n), (1, .slice a l.length c), (2, .slice b d.length e), (6, .bool false), (7, .int .i64 n), (8, .bool ((decide ((0 : Int) ≤ (n : Int))))), (9, .bool true), (10, .int .i64 n), (11, .bool ((decide ((n : Int) ≤ (96 : Int))))), (12, .bool ((decide ((n : Int) ≤ (96 : Int))))), (13, .bool true)]) ⟨rfl, rfl, rfl, rfl, rfl, rfl, rfl, rfl, rfl, rfl, (by exact congrArg (fun z => some (Value.bool z)) h2), trivial⟩ ?_
      have h2 : (n : Int) ≤ (96 : Int) := by simpa using h2
      refine WL.want (d := 13) rfl rfl rfl ?_
      refine WL.val (.int .i64 n) rfl rfl rfl (fun za zC zh zk => wp_move rfl (zh.ev rfl) zk) ?_
      refine WL.want (d := 13) rfl rfl rfl ?_
      refine WL.val (.slice a l.length c) rfl rfl rfl (fun za zC zh zk => wp_move rfl (zh.ev rfl) zk) ?_
      refine WL.want (d := 13) rfl rfl rfl ?_
      refine WL.call rfl rfl rfl (fun za zh zC => wp_call (by kernel_rfl) rfl (hv2 (zh.ev rfl) (zh.ev rfl))) (feats_any n l _ _ _ (hl.below (Below.refl _ _)) hz) ?_
      rintro _ w3 ⟨⟨zal, zcl, rfl, zNl⟩, zbl⟩
      refine WL.want (d := 13) rfl rfl rfl ?_
      refine WL.val (.int .i64 n) rfl rfl rfl (fun za zC zh zk => wp_move rfl (zh.ev rfl) zk) ?_
      refine WL.want (d := 13) rfl rfl rfl ?_
      refine WL.val (.slice b d.length e) rfl rfl rfl (fun za zC zh zk => wp_move rfl (zh.ev rfl) zk) ?_
      refine WL.want (d := 13) rfl rfl rfl ?_
      refine WL.call rfl rfl rfl (fun za zh zC => wp_call (by kernel_rfl) rfl (hv2 (zh.ev rfl) (zh.ev rfl))) (feats_any n d _ _ _ (hd.below zbl) hz2) ?_
      rintro _ w4 ⟨⟨zad, zcd, rfl, zNd⟩, zbd⟩
      refine WL.want (d := 13) rfl rfl rfl ?_
      refine WL.call rfl rfl rfl (fun za zh zC => wp_call (by kernel_rfl) rfl (hv2 (zh.ev rfl) (zh.ev rfl))) (may_row _ _ _ _ _ _ _ (Nums.below zNl zbd) (Nums.below zNd (Below.refl _ _)) (featsI_len _ _ _) (by have z := featsI_le n l; omega)) ?_
      rintro _ w6 ⟨rfl, hq5⟩
      refine WL.val (.bool ((mayB (featsI n l) (featsI n d)))) rfl rfl rfl (fun za zC zh zk => wp_pickT rfl (zh.ev rfl) (zh.ev rfl) zk) ?_
      refine WL.val (.bool ((mayB (featsI n l) (featsI n d)))) rfl rfl rfl (fun za zC zh zk => wp_assign rfl (zh.ev rfl) zk) ?_
      refine WL.nil (WE.sub (K' := [(0, .int .i64 n), (1, .slice a l.length c), (2, .slice b d.length e), (6, .bool ((mayB (featsI n l) (featsI n d))))]) ⟨rfl, rfl, rfl, rfl, trivial⟩ ?_)
      refine WE.next ?_
      refine WC.ret ?_
      refine WE.ret1 rfl rfl ?_
      have hb7 : Below w.heap.size w w6 := (bstep (bstep zbl zbd) hq5)
      exact ⟨_, rfl, congrArg Value.bool (by unfold mayI; rw [decide_eq_true h1, decide_eq_true h2]; rfl), hb7⟩
    · refine WL.sub (K' := [(0, .int .i64 n), (1, .slice a l.length c), (2, .slice b d.length e), (6, .bool false), (7, .int .i64 n), (8, .bool ((decide ((0 : Int) ≤ (n : Int))))), (9, .bool true), (10, .int .i64 n), (11, .bool ((decide ((n : Int) ≤ (96 : Int))))), (12, .bool ((decide ((n : Int) ≤ (96 : Int))))), (13, .bool false)]) ⟨rfl, rfl, rfl, rfl, rfl, rfl, rfl, rfl, rfl, rfl, (by exact congrArg (fun z => some (Value.bool z)) h2), trivial⟩ ?_
      have h2 : ¬ ((n : Int) ≤ (96 : Int)) := by simpa using h2
      refine WL.skip (d := 13) rfl rfl rfl rfl rfl ?_
      refine WL.skip (d := 13) rfl rfl rfl rfl rfl ?_
      refine WL.skip (d := 13) rfl rfl rfl rfl rfl ?_
      refine WL.skip (d := 13) rfl rfl rfl rfl rfl ?_
      refine WL.skip (d := 13) rfl rfl rfl rfl rfl ?_
      refine WL.skip (d := 13) rfl rfl rfl rfl rfl ?_
      refine WL.skip (d := 13) rfl rfl rfl rfl rfl ?_
      refine WL.val (.bool false) rfl rfl rfl (fun za zC zh zk => wp_pickF rfl (zh.ev rfl) (zh.ev rfl) zk) ?_
      refine WL.val (.bool false) rfl rfl rfl (fun za zC zh zk => wp_assign rfl (zh.ev rfl) zk) ?_
      refine WL.nil (WE.sub (K' := [(0, .int .i64 n), (1, .slice a l.length c), (2, .slice b d.length e), (6, .bool false)]) ⟨rfl, rfl, rfl, rfl, trivial⟩ ?_)
      refine WE.next ?_
      refine WC.ret ?_
      refine WE.ret1 rfl rfl ?_
      exact ⟨_, rfl, congrArg Value.bool (by unfold mayI; rw [decide_eq_true h1, decide_eq_false h2]; rfl), (Below.refl _ _)⟩
  · refine WL.sub (K' := [(0, .int .i64 n), (1, .slice a l.length c), (2, .slice b d.length e), (6, .bool false), (7, .int .i64 n), (8, .bool ((decide ((0 : Int) ≤ (n : Int))))), (9, .bool false)]) ⟨rfl, rfl, rfl, rfl, rfl, rfl, (by exact congrArg (fun z => some (Value.bool z)) h1), trivial⟩ ?_
    have h1 : ¬ ((0 : Int) ≤ (n : Int)) := by simpa using h1
    refine WL.skip (d := 9) rfl rfl rfl rfl rfl ?_
    refine WL.skip (d := 9) rfl rfl rfl rfl rfl ?_
    refine WL.val (.bool false) rfl rfl rfl (fun za zC zh zk => wp_pickF rfl (zh.ev rfl) (zh.ev rfl) zk) ?_
    refine WL.val (.bool false) rfl rfl rfl (fun za zC zh zk => wp_move rfl (zh.ev rfl) zk) ?_
    refine WL.skip (d := 13) rfl rfl rfl rfl rfl ?_
    refine WL.skip (d := 13) rfl rfl rfl rfl rfl ?_
    refine WL.skip (d := 13) rfl rfl rfl rfl rfl ?_
    refine WL.skip (d := 13) rfl rfl rfl rfl rfl ?_
    refine WL.skip (d := 13) rfl rfl rfl rfl rfl ?_
    refine WL.skip (d := 13) rfl rfl rfl rfl rfl ?_
    refine WL.skip (d := 13) rfl rfl rfl rfl rfl ?_
    refine WL.val (.bool false) rfl rfl rfl (fun za zC zh zk => wp_pickF rfl (zh.ev rfl) (zh.ev rfl) zk) ?_
    refine WL.val (.bool false) rfl rfl rfl (fun za zC zh zk => wp_assign rfl (zh.ev rfl) zk) ?_
    refine WL.nil (WE.sub (K' := [(0, .int .i64 n), (1, .slice a l.length c), (2, .slice b d.length e), (6, .bool false)]) ⟨rfl, rfl, rfl, rfl, trivial⟩ ?_)
    refine WE.next ?_
    refine WC.ret ?_
    refine WE.ret1 rfl rfl ?_
    exact ⟨_, rfl, congrArg Value.bool (by unfold mayI; rw [decide_eq_false h1]; rfl), (Below.refl _ _)⟩

set_option maxRecDepth 100000 in
theorem rmay_any (n : Int) (l d : List Li) (w : World) (a b : Option Addr) (c e : Nat) (hl : IsCl w l a c) (hd : IsCl w d b e) (hz : l.length ≤ 1048576) (hz2 : d.length ≤ 1048576) : Calls Try.prog 14 #[.int .i64 n, .slice a l.length c, .slice b d.length e] w (Ret fun v' w' => v' = .bool (mayI n l d) ∧ Below w.heap.size w w') := by
  have hmi := mayB_iff (l := featsI n l) (s := featsI n d) (by rw [featsI_len n l d]; omega)
  have hfl := featsI_le n l
  have hfe := featsI_len n l d
  refine Calls.walk (l := [.int .i64 n, .slice a l.length c, .slice b d.length e]) Try.func14 rfl (by kernel_rfl) ?_
  refine WC.sub (K' := [(0, .int .i64 n), (1, .slice a l.length c), (2, .slice b d.length e)]) ⟨rfl, rfl, rfl, trivial⟩ ?_
  refine WC.seq ?_
  refine WC.region ?_
  refine WL.val (.bool false) rfl rfl rfl (fun za zC zh zk => wp_assign rfl (zh.ev rfl) zk) ?_
  refine WL.nil (WE.sub (K' := [(0, .int .i64 n), (1, .slice a l.length c), (2, .slice b d.length e), (6, .bool false)]) ⟨rfl, rfl, rfl, rfl, trivial⟩ ?_)
  refine WE.next ?_
  refine WC.seq ?_
  refine WC.seq ?_
  refine WC.opt [(true, .val (.int .i64 n)), (true, .val (.bool ((decide ((n : Int) < (0 : Int)))))), (true, .val (.bool ((decide ((n : Int) < (0 : Int)))))), ((true && !(decide ((n : Int) < (0 : Int)))), .val (.int .i64 n)), ((true && !(decide ((n : Int) < (0 : Int)))), .val (.bool ((decide ((96 : Int) < (n : Int)))))), (true, .val (.bool (((decide ((n : Int) < (0 : Int))) || (decide ((96 : Int) < (n : Int)))))))] [(0, .int .i64 n), (1, .slice a l.length c), (2, .slice b d.length e), (6, .bool false)] ⟨rfl, rfl, rfl, rfl, trivial⟩ (by kernel_rfl) (by kernel_rfl) (by kernel_rfl) ?_ ?_
  · refine ⟨⟨true, .none rfl, fun h w => optUndef h, fun zβ za zw zc => ?_⟩, ?_⟩
    · exact wp_move rfl (zc.kn.ev rfl) ⟨_, rfl, Below.refl _ _, optDef zβ rfl⟩
    refine ⟨⟨true, .none rfl, fun h w => optUndef h, fun zβ za zw zc => ?_⟩, ?_⟩
    · exact lss_3 rfl ((show za.eval (.tmp 10) = za.tmps.getD 10 undef from rfl).trans (optVal (zc.dep 0 10 (by kernel_rfl)) rfl rfl)) (zc.kn.ev rfl) ⟨_, rfl, Below.refl _ _, optDef zβ rfl⟩
    refine ⟨⟨true, .none rfl, fun h w => optUndef h, fun zβ za zw zc => ?_⟩, ?_⟩
    · exact wp_move rfl ((show za.eval (.tmp 11) = za.tmps.getD 11 undef from rfl).trans (optVal (zc.dep 1 11 (by kernel_rfl)) rfl rfl)) ⟨_, rfl, Below.refl _ _, optDef zβ rfl⟩
    refine ⟨⟨(true && !(decide ((n : Int) < (0 : Int)))), .no (c := (decide ((n : Int) < (0 : Int)))) (d := true) rfl (fun v w h => h), fun h w => optUndef h, fun zβ za zw zc => ?_⟩, ?_⟩
    · exact wp_move rfl (zc.kn.ev rfl) ⟨_, rfl, Below.refl _ _, optDef zβ rfl⟩
    refine ⟨⟨(true && !(decide ((n : Int) < (0 : Int)))), .no (c := (decide ((n : Int) < (0 : Int)))) (d := true) rfl (fun v w h => h), fun h w => optUndef h, fun zβ za zw zc => ?_⟩, ?_⟩
    · exact gtr_3 rfl ((show za.eval (.tmp 13) = za.tmps.getD 13 undef from rfl).trans (optVal (zc.dep 3 13 (by kernel_rfl)) rfl zβ)) (zc.kn.ev rfl) ⟨_, rfl, Below.refl _ _, optDef zβ rfl⟩
    refine ⟨⟨true, .none rfl, fun h w => optUndef h, fun zβ za zw zc => ?_⟩, ?_⟩
    · exact wp_or rfl ((show za.eval (.tmp 12) = za.tmps.getD 12 undef from rfl).trans (optVal (zc.dep 2 12 (by kernel_rfl)) rfl rfl)) (fun hp => ((show za.eval (.tmp 14) = za.tmps.getD 14 undef from rfl).trans (optVal (zc.dep 4 14 (by kernel_rfl)) rfl (bMkN zβ hp)))) ⟨_, rfl, Below.refl _ _, optDef zβ rfl⟩
    exact trivial
  · intro za w1 zh hb2 zu
    have zh := zh.cons (d := 15) (v := .bool (((decide ((n : Int) < (0 : Int))) || (decide ((96 : Int) < (n : Int)))))) (optVal (zu 5 15 (by kernel_rfl)) rfl rfl)
    clear zu
    refine (show WE _ [(0, .int .i64 n), (1, .slice a l.length c), (2, .slice b d.length e), (6, .bool false), (15, .bool (((decide ((n : Int) < (0 : Int))) || (decide ((96 : Int) < (n : Int))))))] w1 _ .normal from ?_) za (zh.sub ⟨rfl, rfl, rfl, rfl, rfl, trivial⟩)
    refine WE.next ?_
    refine WC.cond rfl (fun h3 => ?_) (fun h3 => ?_)
    · have h3 : ((n : Int) < (0 : Int)) ∨ ((96 : Int) < (n : Int)) := by simpa using h3
      refine WC.seq ?_
      refine WC.region ?_
      refine WL.val (.bool false) rfl rfl rfl (fun za zC zh zk => wp_assign rfl (zh.ev rfl) zk) ?_
      refine WL.nil (WE.sub (K' := [(0, .int .i64 n), (1, .slice a l.length c), (2, .slice b d.length e), (6, .bool false), (15, .bool (((decide ((n : Int) < (0 : Int))) || (decide ((96 : Int) < (n : Int))))))]) ⟨rfl, rfl, rfl, rfl, rfl, trivial⟩ ?_)
      refine WE.next ?_
      refine WC.ret ?_
      refine WE.thenRet ?_
      refine WE.ret1 rfl rfl ?_
      exact ⟨_, rfl, congrArg Value.bool (by have z := h3; unfold mayI; rcases Int.lt_or_le n 0 with q | q; (rw [decide_eq_false (by omega)]; rfl); (rw [decide_eq_false (show ¬ n ≤ 96 by rcases z with z | z <;> omega), Bool.and_false]; rfl)), hb2⟩
    · have h3 : ¬ (((n : Int) < (0 : Int)) ∨ ((96 : Int) < (n : Int))) := by simpa using h3
      refine WC.skip ?_
      refine WE.next ?_
      refine WC.seq ?_
      refine WC.region ?_
      refine WL.val (.int .i64 n) rfl rfl rfl (fun za zC zh zk => wp_move rfl (zh.ev rfl) zk) ?_
      refine WL.val (.slice a l.length c) rfl rfl rfl (fun za zC zh zk => wp_move rfl (zh.ev rfl) zk) ?_
      refine WL.call rfl rfl rfl (fun za zh zC => wp_call (by kernel_rfl) rfl (hv2 (zh.ev rfl) (zh.ev rfl))) (rfeats_any n l _ _ _ (hl.below hb2) hz) ?_
      rintro _ w4 ⟨⟨zal, zcl, rfl, zNl⟩, zbl⟩
      refine WL.val (.int .i64 n) rfl rfl rfl (fun za zC zh zk => wp_move rfl (zh.ev rfl) zk) ?_
      refine WL.val (.slice b d.length e) rfl rfl rfl (fun za zC zh zk => wp_move rfl (zh.ev rfl) zk) ?_
      have hb5 : Below w.heap.size w w4 := (bstep hb2 zbl)
      refine WL.call rfl rfl rfl (fun za zh zC => wp_call (by kernel_rfl) rfl (hv2 (zh.ev rfl) (zh.ev rfl))) (rfeats_any n d _ _ _ (hd.below hb5) hz2) ?_
      rintro _ w6 ⟨⟨zad, zcd, rfl, zNd⟩, zbd⟩
      refine WL.val (.slice zal ((featsI n l).length) zcl) rfl rfl rfl (fun za zC zh zk => wp_assign rfl (zh.ev rfl) zk) ?_
      refine WL.val (.slice zad ((featsI n d).length) zcd) rfl rfl rfl (fun za zC zh zk => wp_assign rfl (zh.ev rfl) zk) ?_
      refine WL.nil (WE.sub (K' := [(0, .int .i64 n), (1, .slice a l.length c), (2, .slice b d.length e), (6, .bool false), (7, .slice zal ((featsI n l).length) zcl), (8, .slice zad ((featsI n d).length) zcd), (15, .bool (((decide ((n : Int) < (0 : Int))) || (decide ((96 : Int) < (n : Int))))))]) ⟨rfl, rfl, rfl, rfl, rfl, rfl, rfl, trivial⟩ ?_)
      refine WE.next ?_
      refine WC.seq ?_
      refine WC.seq ?_
      refine WC.region ?_
      refine WL.val (.int .i64 0) rfl rfl rfl (fun za zC zh zk => wp_assign rfl (zh.ev rfl) zk) ?_
      refine WL.nil (WE.sub (K' := [(0, .int .i64 n), (1, .slice a l.length c), (2, .slice b d.length e), (6, .bool false), (7, .slice zal ((featsI n l).length) zcl), (8, .slice zad ((featsI n d).length) zcd), (9, .int .i64 0), (15, .bool (((decide ((n : Int) < (0 : Int))) || (decide ((96 : Int) < (n : Int))))))]) ⟨rfl, rfl, rfl, rfl, rfl, rfl, rfl, rfl, trivial⟩ ?_)
      refine WE.next ?_
      refine WC.block ?_
      refine WC.loop (X := Nat) (fun k => (featsI n l).length - k) (fun k => [(0, .int .i64 n), (1, .slice a l.length c), (2, .slice b d.length e), (7, .slice zal ((featsI n l).length) zcl), (8, .slice zad ((featsI n d).length) zcd), (9, .int .i64 (((k : Nat) : Int))), (15, .bool (((decide ((n : Int) < (0 : Int))) || (decide ((96 : Int) < (n : Int))))))]) (fun k w7 => k ≤ (featsI n l).length ∧ (∀ i, i < k → nget (featsI n l) i ≤ nget (featsI n d) i) ∧ Below w.heap.size w w7 ∧ Below w4.heap.size w4 w7 ∧ Below w6.heap.size w6 w7) 0 ⟨rfl, rfl, rfl, rfl, rfl, rfl, rfl, trivial⟩ ?_ ?_
      · have hb8 : Below w.heap.size w w6 := (bstep hb5 zbd)
        exact ⟨Nat.zero_le _, fun i h => absurd h (Nat.not_lt_zero i), hb8, zbd, (Below.refl _ _)⟩
      · rintro k w7 ⟨hk, hE, hb9, hb10, hb11⟩
        refine WC.seq ?_
        refine WC.seq ?_
        refine WC.region ?_
        refine WL.val (.int .i64 (((k : Nat) : Int))) rfl rfl rfl (fun za zC zh zk => wp_move rfl (zh.ev rfl) zk) ?_
        refine WL.val (.slice zal ((featsI n l).length) zcl) rfl rfl rfl (fun za zC zh zk => wp_move rfl (zh.ev rfl) zk) ?_
        refine WL.val (.int .i64 ((((featsI n l).length : Nat) : Int))) rfl rfl rfl (fun za zC zh zk => len_27 rfl (zh.ev rfl) zk) ?_
        refine WL.val (.bool ((decide ((((k : Nat) : Int) : Int) < ((((featsI n l).length : Nat) : Int) : Int))))) rfl rfl rfl (fun za zC zh zk => lss_3 rfl (zh.ev rfl) (zh.ev rfl) zk) ?_
        refine WL.nil (WE.sub (K' := [(0, .int .i64 n), (1, .slice a l.length c), (2, .slice b d.length e), (7, .slice zal ((featsI n l).length) zcl), (8, .slice zad ((featsI n d).length) zcd), (9, .int .i64 (((k : Nat) : Int))), (15, .bool (((decide ((n : Int) < (0 : Int))) || (decide ((96 : Int) < (n : Int)))))), (25, .bool ((decide ((((k : Nat) : Int) : Int) < ((((featsI n l).length : Nat) : Int) : Int)))))]) ⟨rfl, rfl, rfl, rfl, rfl, rfl, rfl, rfl, trivial⟩ ?_)
        refine WE.next ?_
        refine WC.cond rfl (fun h12 => ?_) (fun h12 => ?_)
        · have h12 : (((k : Nat) : Int) : Int) < ((((featsI n l).length : Nat) : Int) : Int) := by simpa using h12
          refine WC.skip ?_
          refine WE.next ?_
          refine WC.seq ?_
          refine WC.block ?_
          refine WC.seq ?_
          obtain ⟨b13, o14, ha15, hc16⟩ := zNl
          obtain ⟨b17, o18, ha19, hc20⟩ := zNd
          refine WC.opt [(true, .val (.slice zal ((featsI n l).length) zcl)), (true, .val (.int .i64 (((k : Nat) : Int)))), (true, .val (.pointer (some ⟨b13, o14 + k, none⟩))), (true, .val (.int .i64 ((nget ((featsI n l)) k)))), (true, .val (.slice zad ((featsI n d).length) zcd)), (true, .val (.int .i64 (((k : Nat) : Int)))), (true, .val (.pointer (some ⟨b17, o18 + k, none⟩))), (true, .val (.int .i64 ((nget ((featsI n d)) k)))), (true, .val (.bool ((decide (((nget ((featsI n d)) k) : Int) < ((nget ((featsI n l)) k) : Int))))))] [(0, .int .i64 n), (1, .slice a l.length c), (2, .slice b d.length e), (7, .slice zal ((featsI n l).length) zcl), (8, .slice zad ((featsI n d).length) zcd), (9, .int .i64 (((k : Nat) : Int))), (15, .bool (((decide ((n : Int) < (0 : Int))) || (decide ((96 : Int) < (n : Int)))))), (25, .bool ((decide ((((k : Nat) : Int) : Int) < ((((featsI n l).length : Nat) : Int) : Int)))))] ⟨rfl, rfl, rfl, rfl, rfl, rfl, rfl, rfl, trivial⟩ (by kernel_rfl) (by kernel_rfl) (by kernel_rfl) ?_ ?_
          · refine ⟨⟨true, .none rfl, fun h w => optUndef h, fun zβ za zw zc => ?_⟩, ?_⟩
            · exact wp_move rfl (zc.kn.ev rfl) ⟨_, rfl, Below.refl _ _, optDef zβ rfl⟩
            refine ⟨⟨true, .none rfl, fun h w => optUndef h, fun zβ za zw zc => ?_⟩, ?_⟩
            · exact wp_move rfl (zc.kn.ev rfl) ⟨_, rfl, Below.refl _ _, optDef zβ rfl⟩
            refine ⟨⟨true, .none rfl, fun h w => optUndef h, fun zβ za zw zc => ?_⟩, ?_⟩
            · exact ix_27 (k := k) rfl ((show za.eval (.tmp 28) = za.tmps.getD 28 undef from rfl).trans (optVal (zc.dep 0 28 (by kernel_rfl)) rfl rfl)) (ha15 k (by first | omega | (simp; omega))) ((show za.eval (.tmp 29) = za.tmps.getD 29 undef from rfl).trans (optVal (zc.dep 1 29 (by kernel_rfl)) rfl rfl)) (by first | omega | (simp; omega)) ⟨_, rfl, Below.refl _ _, optDef zβ rfl⟩
            refine ⟨⟨true, .none rfl, fun h w => optUndef h, fun zβ za zw zc => ?_⟩, ?_⟩
            · exact ld_3 rfl ((show za.eval (.tmp 30) = za.tmps.getD 30 undef from rfl).trans (optVal (zc.dep 2 30 (by kernel_rfl)) rfl rfl)) (bkeeps (bstep hb10 zc.below) _ _ (hc16 k (by first | omega | (simp; omega)))) ⟨_, rfl, Below.refl _ _, optDef zβ rfl⟩
            refine ⟨⟨true, .none rfl, fun h w => optUndef h, fun zβ za zw zc => ?_⟩, ?_⟩
            · exact wp_move rfl (zc.kn.ev rfl) ⟨_, rfl, Below.refl _ _, optDef zβ rfl⟩
            refine ⟨⟨true, .none rfl, fun h w => optUndef h, fun zβ za zw zc => ?_⟩, ?_⟩
            · exact wp_move rfl (zc.kn.ev rfl) ⟨_, rfl, Below.refl _ _, optDef zβ rfl⟩
            refine ⟨⟨true, .none rfl, fun h w => optUndef h, fun zβ za zw zc => ?_⟩, ?_⟩
            · exact ix_27 (k := k) rfl ((show za.eval (.tmp 32) = za.tmps.getD 32 undef from rfl).trans (optVal (zc.dep 4 32 (by kernel_rfl)) rfl rfl)) (ha19 k (by first | omega | (simp; omega))) ((show za.eval (.tmp 33) = za.tmps.getD 33 undef from rfl).trans (optVal (zc.dep 5 33 (by kernel_rfl)) rfl rfl)) (by first | omega | (simp; omega)) ⟨_, rfl, Below.refl _ _, optDef zβ rfl⟩
            refine ⟨⟨true, .none rfl, fun h w => optUndef h, fun zβ za zw zc => ?_⟩, ?_⟩
            · exact ld_3 rfl ((show za.eval (.tmp 34) = za.tmps.getD 34 undef from rfl).trans (optVal (zc.dep 6 34 (by kernel_rfl)) rfl rfl)) (bkeeps (bstep hb11 zc.below) _ _ (hc20 k (by first | omega | (simp; omega)))) ⟨_, rfl, Below.refl _ _, optDef zβ rfl⟩
            refine ⟨⟨true, .none rfl, fun h w => optUndef h, fun zβ za zw zc => ?_⟩, ?_⟩
            · exact gtr_3 rfl ((show za.eval (.tmp 31) = za.tmps.getD 31 undef from rfl).trans (optVal (zc.dep 3 31 (by kernel_rfl)) rfl rfl)) ((show za.eval (.tmp 35) = za.tmps.getD 35 undef from rfl).trans (optVal (zc.dep 7 35 (by kernel_rfl)) rfl rfl)) ⟨_, rfl, Below.refl _ _, optDef zβ rfl⟩
            exact trivial
          · intro za w21 zh hb22 zu
            have zh := zh.cons (d := 36) (v := .bool ((decide (((nget ((featsI n d)) k) : Int) < ((nget ((featsI n l)) k) : Int))))) (optVal (zu 8 36 (by kernel_rfl)) rfl rfl)
            clear zu
            refine (show WE _ [(0, .int .i64 n), (1, .slice a l.length c), (2, .slice b d.length e), (7, .slice zal ((featsI n l).length) zcl), (8, .slice zad ((featsI n d).length) zcd), (9, .int .i64 (((k : Nat) : Int))), (15, .bool (((decide ((n : Int) < (0 : Int))) || (decide ((96 : Int) < (n : Int)))))), (25, .bool ((decide ((((k : Nat) : Int) : Int) < ((((featsI n l).length : Nat) : Int) : Int))))), (36, .bool ((decide (((nget ((featsI n d)) k) : Int) < ((nget ((featsI n l)) k) : Int)))))] w21 _ .normal from ?_) za (zh.sub ⟨rfl, rfl, rfl, rfl, rfl, rfl, rfl, rfl, rfl, trivial⟩)
            refine WE.next ?_
            refine WC.cond rfl (fun h23 => ?_) (fun h23 => ?_)
            · have h23 : ((nget ((featsI n d)) k) : Int) < ((nget ((featsI n l)) k) : Int) := by simpa using h23
              refine WC.seq ?_
              refine WC.region ?_
              refine WL.val (.bool false) rfl rfl rfl (fun za zC zh zk => wp_assign rfl (zh.ev rfl) zk) ?_
              refine WL.nil (WE.sub (K' := [(0, .int .i64 n), (1, .slice a l.length c), (2, .slice b d.length e), (6, .bool false), (7, .slice zal ((featsI n l).length) zcl), (8, .slice zad ((featsI n d).length) zcd), (9, .int .i64 (((k : Nat) : Int))), (15, .bool (((decide ((n : Int) < (0 : Int))) || (decide ((96 : Int) < (n : Int)))))), (25, .bool ((decide ((((k : Nat) : Int) : Int) < ((((featsI n l).length : Nat) : Int) : Int))))), (36, .bool ((decide (((nget ((featsI n d)) k) : Int) < ((nget ((featsI n l)) k) : Int)))))]) ⟨rfl, rfl, rfl, rfl, rfl, rfl, rfl, rfl, rfl, rfl, trivial⟩ ?_)
              refine WE.next ?_
              refine WC.ret ?_
              refine WE.blockRet ?_
              refine WE.thenRet ?_
              refine WE.thenRet ?_
              refine WE.blockRet ?_
              refine WE.thenRet ?_
              refine WE.ret1 rfl rfl ?_
              have hn0 : 0 ≤ n ∧ n ≤ 96 := by have z := h3; omega
              have hb24 : Below w.heap.size w w21 := (bstep hb9 hb22)
              exact ⟨_, rfl, congrArg Value.bool (by unfold mayI; rw [show mayB (featsI n l) (featsI n d) = false from Bool.eq_false_iff.2 (fun e => by have z := hmi.1 e k (by omega); have z2 := h23; omega), Bool.and_false]), hb24⟩
            · have h23 : ¬ (((nget ((featsI n d)) k) : Int) < ((nget ((featsI n l)) k) : Int)) := by simpa using h23
              refine WC.skip ?_
              refine WE.blockNormal ?_
              refine WE.next ?_
              refine WC.region ?_
              refine WL.val (.int .i64 (((k : Nat) : Int))) rfl rfl rfl (fun za zC zh zk => wp_move rfl (zh.ev rfl) zk) ?_
              refine WL.val (.int .i64 ((((k + 1) : Nat) : Int))) rfl rfl rfl (fun za zC zh zk => addb_3 rfl (zh.ev rfl) (zh.ev rfl) (wrap_eq (by omega) (by omega) (by omega)) zk) ?_
              refine WL.val (.int .i64 ((((k + 1) : Nat) : Int))) rfl rfl rfl (fun za zC zh zk => wp_assign rfl (zh.ev rfl) zk) ?_
              refine WL.nil (WE.sub (K' := [(0, .int .i64 n), (1, .slice a l.length c), (2, .slice b d.length e), (7, .slice zal ((featsI n l).length) zcl), (8, .slice zad ((featsI n d).length) zcd), (9, .int .i64 ((((k + 1) : Nat) : Int))), (15, .bool (((decide ((n : Int) < (0 : Int))) || (decide ((96 : Int) < (n : Int)))))), (25, .bool ((decide ((((k : Nat) : Int) : Int) < ((((featsI n l).length : Nat) : Int) : Int))))), (36, .bool ((decide (((nget ((featsI n d)) k) : Int) < ((nget ((featsI n l)) k) : Int)))))]) ⟨rfl, rfl, rfl, rfl, rfl, rfl, rfl, rfl, rfl, trivial⟩ ?_)
              refine WE.round (k + 1) ⟨rfl, rfl, rfl, rfl, rfl, rfl, rfl, trivial⟩ ?_ ?_
              · have hb25 : Below w.heap.size w w21 := (bstep hb9 hb22)
                have hb26 : Below w4.heap.size w4 w21 := (bstep hb10 hb22)
                have hb27 : Below w6.heap.size w6 w21 := (bstep hb11 hb22)
                exact ⟨by omega, fun i hi => by rcases Nat.lt_or_ge i k with q | q; exact hE i q; (obtain rfl : i = k := by omega); have z := h23; omega, hb25, hb26, hb27⟩
              · omega
        · have h12 : ¬ ((((k : Nat) : Int) : Int) < ((((featsI n l).length : Nat) : Int) : Int)) := by simpa using h12
          refine WC.exit ?_
          refine WE.thenExit ?_
          refine WE.thenExit ?_
          refine WE.blockIs rfl ?_
          refine WE.next ?_
          refine WC.seq ?_
          refine WC.region ?_
          refine WL.val (.bool true) rfl rfl rfl (fun za zC zh zk => wp_assign rfl (zh.ev rfl) zk) ?_
          refine WL.nil (WE.sub (K' := [(0, .int .i64 n), (1, .slice a l.length c), (2, .slice b d.length e), (6, .bool true), (7, .slice zal ((featsI n l).length) zcl), (8, .slice zad ((featsI n d).length) zcd), (9, .int .i64 (((k : Nat) : Int))), (15, .bool (((decide ((n : Int) < (0 : Int))) || (decide ((96 : Int) < (n : Int)))))), (25, .bool ((decide ((((k : Nat) : Int) : Int) < ((((featsI n l).length : Nat) : Int) : Int)))))]) ⟨rfl, rfl, rfl, rfl, rfl, rfl, rfl, rfl, rfl, trivial⟩ ?_)
          refine WE.next ?_
          refine WC.ret ?_
          refine WE.ret1 rfl rfl ?_
          have hn0 : 0 ≤ n ∧ n ≤ 96 := by have z := h3; omega
          exact ⟨_, rfl, congrArg Value.bool (by unfold mayI; rw [hmi.2 (fun i hi => hE i (by omega)), decide_eq_true hn0.1, decide_eq_true hn0.2]; rfl), hb9⟩

end Go.Proofs.Ytnblndmjjokepaa
