/- The features of a clause: the program. -/
import Derived.Test.YtnblndmjjokepaaFvSmall
import Derived.Test.YtnblndmjjokepaaFvPlaces
namespace Go.Proofs.Ytnblndmjjokepaa
open Go.RowKit Go
set_option linter.unusedVariables false
set_option linter.unusedSimpArgs false

/-- What the program's row of features is, as a list. -/
def featsI (n : Int) (c : List Li) : List Int := if 0 ≤ n ∧ n ≤ 96 then (List.range (2 + 4 * n.toNat)).map (featP n.toNat c) else []
theorem featsI_nat {N : Nat} (h : N ≤ 96) (c : List Li) : featsI N c = (List.range (2 + 4 * N)).map (featP N c) := by unfold featsI; rw [if_pos (by omega)]; rfl
theorem featsI_no {n : Int} (h : n < 0 ∨ 96 < n) (c : List Li) : featsI n c = [] := by unfold featsI; rw [if_neg (by omega)]
def tw {α : Type} (k : Nat) (x y : α) : α := if k = 0 then x else y
theorem two_cells {w : World} {g k : Nat} {t : TypeId} {L R : T} {a1 a2 : Option Addr} {c1 c2 : Nat} (h : Blk w g t #[.int .i64 L.f, .slice a1 L.args.length c1, .int .i64 R.f, .slice a2 R.args.length c2]) (hk : k < 2) :
    w.cell? ⟨g, 0 + k * 2, none⟩ = some (.int .i64 (tget [L, R] k).f) ∧ w.cell? ⟨g, 0 + k * 2 + 1, none⟩ = some (.slice (tw k a1 a2) (tget [L, R] k).args.length (tw k c1 c2)) := by
  obtain rfl | rfl : k = 0 ∨ k = 1 := by omega
  · exact ⟨(h.cell 0).trans rfl, (h.cell 1).trans rfl⟩
  · exact ⟨(h.cell 2).trans rfl, (h.cell 3).trans rfl⟩
theorem two_in {S : Nat → Prop} {w : World} {k : Nat} {L R : T} {a1 a2 : Option Addr} {c1 c2 : Nat} (h1 : InT S w L (.agg #[.int .i64 L.f, .slice a1 L.args.length c1])) (h2 : InT S w R (.agg #[.int .i64 R.f, .slice a2 R.args.length c2])) (hk : k < 2) :
    InT S w (tget [L, R] k) (.agg #[.int .i64 (tget [L, R] k).f, .slice (tw k a1 a2) (tget [L, R] k).args.length (tw k c1 c2)]) := by
  obtain rfl | rfl : k = 0 ∨ k = 1 := by omega
  · exact h1
  · exact h2
theorem two_size {k : Nat} {L R : T} {B : Nat} (h1 : L.size ≤ B) (h2 : R.size ≤ B) (hk : k < 2) : (tget [L, R] k).size ≤ B := by
  obtain rfl | rfl : k = 0 ∨ k = 1 := by omega
  · exact h1
  · exact h2
/-- The row behind some of a literal's sides. -/
def inG (n way : Nat) (L R : T) (g : Nat → Int) (j : Nat) : Nat → Int := ([L, R].take j).foldl (fun g t => sideP n way t g) g
theorem inG_zero {n way : Nat} {L R : T} {g : Nat → Int} : inG n way L R g 0 = g := rfl
theorem inG_succ {n way j : Nat} {L R : T} {g : Nat → Int} (h : j < 2) : inG n way L R g (j + 1) = sideP n way (tget [L, R] j) (inG n way L R g j) := by
  obtain rfl | rfl : j = 0 ∨ j = 1 := by omega
  · rfl
  · rfl
theorem inG_two {n way : Nat} {L R : T} {g : Nat → Int} : inG n way L R g 2 = sideP n way R (sideP n way L g) := rfl
def outG (n : Nat) (l : List Li) (i : Nat) : Nat → Int := (l.take i).foldl (litP n) (fun _ => 0)
theorem outG_zero {n : Nat} {l : List Li} : outG n l 0 = fun _ => 0 := rfl
theorem outG_succ {n i : Nat} {l : List Li} (h : i < l.length) : outG n l (i + 1) = litP n (outG n l i) (lget l i) := by
  have : Inhabited Li := ⟨⟨false, .mk 0 [], .mk 0 []⟩⟩
  unfold outG; rw [foldl_take1 h, lget_lt h]
theorem outG_nonneg {n : Nat} {l : List Li} {i : Nat} : ∀ k, 0 ≤ outG n l i k := feat_nonneg _ _ (fun _ => Int.le_refl _)
theorem outG_end {n : Nat} {l : List Li} {i : Nat} (h : l.length ≤ i) : outG n l i = featP n l := by unfold outG featP; rw [List.take_of_length_le h]
theorem lit_out {n : Nat} {x : Li} {g : Nat → Int} {way : Nat} (h : way = x.way) : litP n g x = inG n way x.l x.r (gset g way (g way + 1)) 2 := by subst h; rfl
theorem li_way {x : Li} {b : Bool} {n : Nat} (h : x.neg = b) (e : n = if b = true then 1 else 0) : n = x.way := by unfold Li.way; rw [h, e]
set_option maxRecDepth 100000 in
set_option maxHeartbeats 1000000 in
theorem feat_nat (n : Nat) (hn : n ≤ 96) (l : List Li) (w : World) (a : Option Addr) (c : Nat) (hl : IsCl w l a c) (hz : l.length ≤ 1048576) : Calls Try.prog 11 #[.int .i64 (n : Int), .slice a l.length c] w (Ret fun v' w' => (∃ ob, v' = .slice (some ⟨ob, 0, none⟩) (2 + 4 * n) (2 + 4 * n) ∧ IRow w' 3 ob (2 + 4 * n) (featP n l) ∧ w.heap.size ≤ ob) ∧ Below w.heap.size w w') := by
  have hr := hl.rows
  refine Calls.walk (l := [.int .i64 (((n : Nat) : Int)), .slice a l.length c]) Try.func11 rfl (by kernel_rfl) ?_
  refine WC.sub (K' := [(0, .int .i64 (((n : Nat) : Int))), (1, .slice a l.length c)]) ⟨rfl, rfl, trivial⟩ ?_
  refine WC.seq ?_
  refine WC.region ?_
  refine WL.step (post := NewBlk w 3 #[.int .i64 (((n : Nat) : Int))]) rfl rfl rfl (fun za zC zh zk => box_3 rfl (zh.ev rfl) (zk _ _ (newBlk _ _ _))) ?_
  rintro _ w1 ⟨g2, rfl, hg3, hB4, hb5, hz6⟩
  have hl7 : w.heap.size ≤ g2 := by omega
  refine WL.val (.slice none 0 0) rfl rfl rfl (fun za zC zh zk => wp_assign rfl (zh.ev rfl) zk) ?_
  refine WL.nil (WE.sub (K' := [(0, .int .i64 (((n : Nat) : Int))), (1, .slice a l.length c), (2, .pointer (some ⟨g2, 0, none⟩)), (4, .slice none 0 0)]) ⟨rfl, rfl, rfl, rfl, trivial⟩ ?_)
  refine WE.next ?_
  refine WC.seq ?_
  refine WC.seq ?_
  refine WC.opt [(true, .val (.int .i64 (((n : Nat) : Int)))), (true, .val (.bool ((decide ((((n : Nat) : Int) : Int) < (0 : Int)))))), (true, .val (.bool ((decide ((((n : Nat) : Int) : Int) < (0 : Int)))))), ((true && !(decide ((((n : Nat) : Int) : Int) < (0 : Int)))), .val (.int .i64 (((n : Nat) : Int)))), ((true && !(decide ((((n : Nat) : Int) : Int) < (0 : Int)))), .val (.bool ((decide ((96 : Int) < (((n : Nat) : Int) : Int)))))), (true, .val (.bool (((decide ((((n : Nat) : Int) : Int) < (0 : Int))) || (decide ((96 : Int) < (((n : Nat) : Int) : Int)))))))] [(0, .int .i64 (((n : Nat) : Int))), (1, .slice a l.length c), (2, .pointer (some ⟨g2, 0, none⟩)), (4, .slice none 0 0)] ⟨rfl, rfl, rfl, rfl, trivial⟩ (by kernel_rfl) (by kernel_rfl) (by kernel_rfl) ?_ ?_
  · refine ⟨⟨true, .none rfl, fun h w => optUndef h, fun zβ za zw zc => ?_⟩, ?_⟩
    · exact ld_3 rfl (zc.kn.ev rfl) (bkeeps zc.below _ _ ((hB4.cell 0).trans rfl)) ⟨_, rfl, Below.refl _ _, optDef zβ rfl⟩
    refine ⟨⟨true, .none rfl, fun h w => optUndef h, fun zβ za zw zc => ?_⟩, ?_⟩
    · exact lss_3 rfl ((show za.eval (.tmp 14) = za.tmps.getD 14 undef from rfl).trans (optVal (zc.dep 0 14 (by kernel_rfl)) rfl rfl)) (zc.kn.ev rfl) ⟨_, rfl, Below.refl _ _, optDef zβ rfl⟩
    refine ⟨⟨true, .none rfl, fun h w => optUndef h, fun zβ za zw zc => ?_⟩, ?_⟩
    · exact wp_move rfl ((show za.eval (.tmp 15) = za.tmps.getD 15 undef from rfl).trans (optVal (zc.dep 1 15 (by kernel_rfl)) rfl rfl)) ⟨_, rfl, Below.refl _ _, optDef zβ rfl⟩
    refine ⟨⟨(true && !(decide ((((n : Nat) : Int) : Int) < (0 : Int)))), .no (c := (decide ((((n : Nat) : Int) : Int) < (0 : Int)))) (d := true) rfl (fun v w h => h), fun h w => optUndef h, fun zβ za zw zc => ?_⟩, ?_⟩
    · exact ld_3 rfl (zc.kn.ev rfl) (bkeeps zc.below _ _ ((hB4.cell 0).trans rfl)) ⟨_, rfl, Below.refl _ _, optDef zβ rfl⟩
    refine ⟨⟨(true && !(decide ((((n : Nat) : Int) : Int) < (0 : Int)))), .no (c := (decide ((((n : Nat) : Int) : Int) < (0 : Int)))) (d := true) rfl (fun v w h => h), fun h w => optUndef h, fun zβ za zw zc => ?_⟩, ?_⟩
    · exact gtr_3 rfl ((show za.eval (.tmp 17) = za.tmps.getD 17 undef from rfl).trans (optVal (zc.dep 3 17 (by kernel_rfl)) rfl zβ)) (zc.kn.ev rfl) ⟨_, rfl, Below.refl _ _, optDef zβ rfl⟩
    refine ⟨⟨true, .none rfl, fun h w => optUndef h, fun zβ za zw zc => ?_⟩, ?_⟩
    · exact wp_or rfl ((show za.eval (.tmp 16) = za.tmps.getD 16 undef from rfl).trans (optVal (zc.dep 2 16 (by kernel_rfl)) rfl rfl)) (fun hp => ((show za.eval (.tmp 18) = za.tmps.getD 18 undef from rfl).trans (optVal (zc.dep 4 18 (by kernel_rfl)) rfl (bMkN zβ hp)))) ⟨_, rfl, Below.refl _ _, optDef zβ rfl⟩
    exact trivial
  · intro za w8 zh hb9 zu
    have zh := zh.cons (d := 19) (v := .bool (((decide ((((n : Nat) : Int) : Int) < (0 : Int))) || (decide ((96 : Int) < (((n : Nat) : Int) : Int)))))) (optVal (zu 5 19 (by kernel_rfl)) rfl rfl)
    clear zu
    refine (show WE _ [(0, .int .i64 (((n : Nat) : Int))), (1, .slice a l.length c), (2, .pointer (some ⟨g2, 0, none⟩)), (4, .slice none 0 0), (19, .bool (((decide ((((n : Nat) : Int) : Int) < (0 : Int))) || (decide ((96 : Int) < (((n : Nat) : Int) : Int))))))] w8 _ .normal from ?_) za (zh.sub ⟨rfl, rfl, rfl, rfl, rfl, trivial⟩)
    refine WE.next ?_
    refine WC.condF rfl (by simp; omega) ?_
    refine WC.skip ?_
    refine WE.next ?_
    refine WC.seq ?_
    refine WC.region ?_
    have hB10 := hB4.below hb9
    refine WL.val (.int .i64 (((n : Nat) : Int))) rfl rfl rfl (fun za zC zh zk => ld_3 rfl (zh.ev rfl) ((hB10.cell 0).trans rfl) zk) ?_
    refine WL.val (.int .i64 ((((4 * n) : Nat) : Int))) rfl rfl rfl (fun za zC zh zk => mulb_3 rfl (zh.ev rfl) (zh.ev rfl) (wrap_eq (by omega) (by omega) (by omega)) zk) ?_
    refine WL.val (.int .i64 ((((2 + 4 * n) : Nat) : Int))) rfl rfl rfl (fun za zC zh zk => addb_3 rfl (zh.ev rfl) (zh.ev rfl) (wrap_eq (by omega) (by omega) (by omega)) zk) ?_
    refine WL.step (post := fun v w' => ∃ g, v = .slice (some ⟨g, 0, none⟩) (2 + 4 * n) (2 + 4 * n) ∧ w8.heap.size = g ∧ Blk w' g 3 (madeCells (Value.cells (.int .i64 0)) ((2 + 4 * n) * 1)) ∧ Below w8.heap.size w8 w') rfl rfl rfl (fun za zC zh zk => wp_mkE (z := .int .i64 0) (size := 1) (bytes := 8) Try.underlying27 (by kernel_rfl) (by decide) rfl (zh.ev rfl) (zh.ev rfl) (by omega) (zk _ _ ⟨_, rfl, rfl, Blk.new' rfl, balloc _ _⟩)) ?_
    rintro _ w11 ⟨ob, rfl, hg12, hB13, hb14⟩
    have hl16 : g2 < ob := by have z1 := hB10.lt; omega
    have hb17 : Below w.heap.size w w8 := (bstep hb5 hb9)
    have hl18 : w.heap.size ≤ ob := by have z2 := (hb17).size; omega
    have hM15 := irow_new hB13
    have hob9 : w.heap.size ≤ ob := by omega
    refine WL.step (post := NewBlk w11 27 #[.slice none 0 0]) rfl rfl rfl (fun za zC zh zk => alloc_27 rfl (zk _ _ (newBlk _ _ _))) ?_
    rintro _ w19 ⟨g20, rfl, hg21, hB22, hb23, hz24⟩
    have hl25 : g2 < g20 := by have z1 := hB10.lt; have z2 := (hb14).size; omega
    have hl26 : ob < g20 := by have z1 := hM15.lt; omega
    have hb27 : Below w.heap.size w w11 := (bstep hb17 hb14)
    have hl28 : w.heap.size ≤ g20 := by have z2 := (hb27).size; omega
    refine WL.step (post := fun _ w' => Upd g20 w19 w' ∧ Blk w' g20 27 #[.slice ((some ⟨ob, 0, none⟩)) ((2 + 4 * n)) ((2 + 4 * n))]) rfl rfl rfl (fun za zC zh zk => st_27 rfl (zh.ev rfl) (zh.ev rfl) hB22 (by first | decide | simp) (fun v => zk v _ ⟨Upd.at_ _ _ _ _, hB22.set_ 0 _⟩)) ?_
    rintro v32 w29 ⟨hu30, hB31⟩
    have hb33 : Below w.heap.size w w19 := (bstep hb27 hb23)
    have hb34 := upd_below hb33 hu30 (by omega)
    have hb36 : Below w8.heap.size w8 w19 := (bstep hb14 hb23)
    have hB35 := hB10.below hb36
    have hB37 := upd_blk hB35 hu30 (by omega)
    have ho38 := (Marks.nil (B := w.heap.size) (w := w)).below hb33
    have ho39 := ho38.upd hu30 (⟨_, hB22, rfl⟩)
    have ho40 := hM15.below hb23
    have ho41 := ho40.upd hu30 (by omega)
    refine WL.nil (WE.sub (K' := [(0, .int .i64 (((n : Nat) : Int))), (1, .slice a l.length c), (2, .pointer (some ⟨g2, 0, none⟩)), (4, .slice none 0 0), (5, .pointer (some ⟨g20, 0, none⟩)), (19, .bool (((decide ((((n : Nat) : Int) : Int) < (0 : Int))) || (decide ((96 : Int) < (((n : Nat) : Int) : Int))))))]) ⟨rfl, rfl, rfl, rfl, rfl, rfl, trivial⟩ ?_)
    refine WE.next ?_
    refine WC.seq ?_
    refine WC.seq ?_
    refine WC.region ?_
    refine WL.val (.slice a l.length c) rfl rfl rfl (fun za zC zh zk => wp_move rfl (zh.ev rfl) zk) ?_
    refine WL.val (.int .i64 (((l.length : Nat) : Int))) rfl rfl rfl (fun za zC zh zk => len_23 rfl (zh.ev rfl) zk) ?_
    refine WL.val (.int .i64 0) rfl rfl rfl (fun za zC zh zk => wp_move rfl (zh.ev rfl) zk) ?_
    refine WL.nil (WE.sub (K' := [(0, .int .i64 (((n : Nat) : Int))), (1, .slice a l.length c), (2, .pointer (some ⟨g2, 0, none⟩)), (4, .slice none 0 0), (5, .pointer (some ⟨g20, 0, none⟩)), (19, .bool (((decide ((((n : Nat) : Int) : Int) < (0 : Int))) || (decide ((96 : Int) < (((n : Nat) : Int) : Int)))))), (24, .slice a l.length c), (25, .int .i64 (((l.length : Nat) : Int))), (26, .int .i64 0)]) ⟨rfl, rfl, rfl, rfl, rfl, rfl, rfl, rfl, rfl, trivial⟩ ?_)
    refine WE.next ?_
    refine WC.block ?_
    refine WC.loopD (X := Nat) (fun i => l.length - i) (fun i => [(0, .int .i64 (((n : Nat) : Int))), (1, .slice a l.length c), (2, .pointer (some ⟨g2, 0, none⟩)), (4, .slice none 0 0), (5, .pointer (some ⟨g20, 0, none⟩)), (19, .bool (((decide ((((n : Nat) : Int) : Int) < (0 : Int))) || (decide ((96 : Int) < (((n : Nat) : Int) : Int)))))), (24, .slice a l.length c), (25, .int .i64 (((l.length : Nat) : Int))), (26, .int .i64 (((i : Nat) : Int)))]) (fun i Dl43 w42 => i ≤ l.length ∧ (∀ k, evn k → outG n l i k ≤ i * 17179869184) ∧ Below w.heap.size w w42 ∧ Blk w42 g2 3 #[.int .i64 (((n : Nat) : Int))] ∧ Blk w42 g20 27 #[.slice ((some ⟨ob, 0, none⟩)) ((2 + 4 * n)) ((2 + 4 * n))] ∧ Marks w.heap.size (w42) Dl43 ∧ IRow (w42) 3 ob (2 + 4 * n) (outG n l i)) 0 [] rfl ⟨rfl, rfl, rfl, rfl, rfl, rfl, rfl, rfl, rfl, trivial⟩ ?_ ?_
    · exact ⟨Nat.zero_le _, (fun k _ => by simp [outG]), hb34, hB37, hB31, ho39, ho41⟩
    · rintro i Dl43 w42 ⟨hi, hgb, hb44, hB45, hB46, ho47, ho48⟩
      have hpl : i < l.length → (lget l i).l.size ≤ 4294967296 := fun h => hl.pl h
      have hpr : i < l.length → (lget l i).r.size ≤ 4294967296 := fun h => hl.pr h
      have hg0 := outG_nonneg (n := n) (l := l) (i := i)
      refine WC.seq ?_
      refine WC.region ?_
      refine WL.val (.bool ((decide ((((i : Nat) : Int) : Int) < (((l.length : Nat) : Int) : Int))))) rfl rfl rfl (fun za zC zh zk => lss_3 rfl (zh.ev rfl) (zh.ev rfl) zk) ?_
      refine WL.nil (WE.sub (K' := [(0, .int .i64 (((n : Nat) : Int))), (1, .slice a l.length c), (2, .pointer (some ⟨g2, 0, none⟩)), (4, .slice none 0 0), (5, .pointer (some ⟨g20, 0, none⟩)), (19, .bool (((decide ((((n : Nat) : Int) : Int) < (0 : Int))) || (decide ((96 : Int) < (((n : Nat) : Int) : Int)))))), (24, .slice a l.length c), (25, .int .i64 (((l.length : Nat) : Int))), (26, .int .i64 (((i : Nat) : Int))), (27, .bool ((decide ((((i : Nat) : Int) : Int) < (((l.length : Nat) : Int) : Int)))))]) ⟨rfl, rfl, rfl, rfl, rfl, rfl, rfl, rfl, rfl, rfl, trivial⟩ ?_)
      refine WE.next ?_
      refine WC.seq ?_
      refine WC.cond rfl (fun h49 => ?_) (fun h49 => ?_)
      · have h49 : (((i : Nat) : Int) : Int) < (((l.length : Nat) : Int) : Int) := by simpa using h49
        have hil : i < l.length := by omega
        refine WC.skip ?_
        refine WE.next ?_
        refine WC.seq ?_
        refine WC.block ?_
        refine WC.seq ?_
        refine WC.region ?_
        obtain ⟨b50, o51, A52, C53, A54, C55, ha56, hc57⟩ := InRow.openL hr
        refine WL.val (.pointer (some ⟨b50, o51 + i * 5, none⟩)) rfl rfl rfl (fun za zC zh zk => ix_23 (k := i) rfl (zh.ev rfl) (ha56 i (by first | omega | (simp; omega))) (zh.ev rfl) (by first | omega | (simp; omega)) zk) ?_
        refine WL.val (.agg #[.bool ((lget l i).neg), .int .i64 ((lget l i).l.f), .slice ((A52 i)) ((lget l i).l.args.length) ((C53 i)), .int .i64 ((lget l i).r.f), .slice ((A54 i)) ((lget l i).r.args.length) ((C55 i))]) rfl rfl rfl (fun za zC zh zk => ld_34 rfl (zh.ev rfl) (bkeeps hb44 _ _ (hc57 i (by first | omega | (simp; omega))).1) (bkeeps hb44 _ _ (hc57 i (by first | omega | (simp; omega))).2.1) (bkeeps hb44 _ _ (hc57 i (by first | omega | (simp; omega))).2.2.1) (bkeeps hb44 _ _ (hc57 i (by first | omega | (simp; omega))).2.2.2.1) (bkeeps hb44 _ _ (hc57 i (by first | omega | (simp; omega))).2.2.2.2.1) zk) ?_
        refine WL.step (post := NewBlk w42 34 #[.bool false, .int .i64 0, .slice none 0 0, .int .i64 0, .slice none 0 0]) rfl rfl rfl (fun za zC zh zk => alloc_34 rfl (zk _ _ (newBlk _ _ _))) ?_
        rintro _ w58 ⟨g59, rfl, hg60, hB61, hb62, hz63⟩
        have hl64 : g2 < g59 := by have z1 := hB45.lt; omega
        have hl65 : g20 < g59 := by have z1 := hB46.lt; omega
        have hl66 : ob < g59 := by have z1 := ho48.lt; omega
        have hl67 : w.heap.size ≤ g59 := by have z2 := (hb44).size; omega
        refine WL.step (post := fun _ w' => Upd g59 w58 w' ∧ Blk w' g59 34 #[.bool ((lget l i).neg), .int .i64 ((lget l i).l.f), .slice ((A52 i)) ((lget l i).l.args.length) ((C53 i)), .int .i64 ((lget l i).r.f), .slice ((A54 i)) ((lget l i).r.args.length) ((C55 i))]) rfl rfl rfl (fun za zC zh zk => st_34 rfl (zh.ev rfl) (zh.ev rfl) rfl rfl rfl rfl rfl hB61 (by first | decide | simp) (fun v => zk v _ ⟨((((Upd.at_ _ _ _ _).trans (Upd.at_ _ _ _ _)).trans (Upd.at_ _ _ _ _)).trans (Upd.at_ _ _ _ _)).trans (Upd.at_ _ _ _ _), ((((hB61.set_ 0 _).set_ 1 _).set_ 2 _).set_ 3 _).set_ 4 _⟩)) ?_
        rintro v71 w68 ⟨hu69, hB70⟩
        have hb72 : Below w.heap.size w w58 := (bstep hb44 hb62)
        have hb73 := upd_below hb72 hu69 (by omega)
        have hB74 := hB45.below hb62
        have hB75 := upd_blk hB74 hu69 (by omega)
        have hB76 := hB46.below hb62
        have hB77 := upd_blk hB76 hu69 (by omega)
        have ho78 := ho47.below hb62
        have ho79 := ho78.upd hu69 (⟨_, hB61, rfl⟩)
        have ho80 := ho48.below hb62
        have ho81 := ho80.upd hu69 (by omega)
        refine WL.nil (WE.sub (K' := [(0, .int .i64 (((n : Nat) : Int))), (1, .slice a l.length c), (2, .pointer (some ⟨g2, 0, none⟩)), (4, .slice none 0 0), (5, .pointer (some ⟨g20, 0, none⟩)), (7, .pointer (some ⟨g59, 0, none⟩)), (19, .bool (((decide ((((n : Nat) : Int) : Int) < (0 : Int))) || (decide ((96 : Int) < (((n : Nat) : Int) : Int)))))), (24, .slice a l.length c), (25, .int .i64 (((l.length : Nat) : Int))), (26, .int .i64 (((i : Nat) : Int))), (27, .bool ((decide ((((i : Nat) : Int) : Int) < (((l.length : Nat) : Int) : Int)))))]) ⟨rfl, rfl, rfl, rfl, rfl, rfl, rfl, rfl, rfl, rfl, rfl, trivial⟩ ?_)
        refine WE.next ?_
        refine WC.seq ?_
        refine WC.region ?_
        refine WL.step (post := NewBlk w68 3 #[.int .i64 0]) rfl rfl rfl (fun za zC zh zk => alloc_3 rfl (zk _ _ (newBlk _ _ _))) ?_
        rintro _ w82 ⟨g83, rfl, hg84, hB85, hb86, hz87⟩
        have hl88 : g2 < g83 := by have z1 := hB75.lt; omega
        have hl89 : g20 < g83 := by have z1 := hB77.lt; omega
        have hl90 : g59 < g83 := by have z1 := hB70.lt; omega
        have hl91 : ob < g83 := by have z1 := ho81.lt; omega
        have hl92 : w.heap.size ≤ g83 := by have z2 := (hb73).size; omega
        refine WL.step (post := fun _ w' => Upd g83 w82 w' ∧ Blk w' g83 3 #[.int .i64 0]) rfl rfl rfl (fun za zC zh zk => st_3 rfl (zh.ev rfl) (zh.ev rfl) hB85 (by first | decide | simp) (fun v => zk v _ ⟨Upd.at_ _ _ _ _, hB85.set_ 0 _⟩)) ?_
        rintro v96 w93 ⟨hu94, hB95⟩
        have hb97 : Below w.heap.size w w82 := (bstep hb73 hb86)
        have hb98 := upd_below hb97 hu94 (by omega)
        have hB99 := hB75.below hb86
        have hB100 := upd_blk hB99 hu94 (by omega)
        have hB101 := hB77.below hb86
        have hB102 := upd_blk hB101 hu94 (by omega)
        have hB103 := hB70.below hb86
        have hB104 := upd_blk hB103 hu94 (by omega)
        have ho105 := ho79.below hb86
        have ho106 := ho105.upd hu94 (⟨_, hB85, rfl⟩)
        have ho107 := ho81.below hb86
        have ho108 := ho107.upd hu94 (by omega)
        refine WL.nil (WE.sub (K' := [(0, .int .i64 (((n : Nat) : Int))), (1, .slice a l.length c), (2, .pointer (some ⟨g2, 0, none⟩)), (4, .slice none 0 0), (5, .pointer (some ⟨g20, 0, none⟩)), (7, .pointer (some ⟨g59, 0, none⟩)), (8, .pointer (some ⟨g83, 0, none⟩)), (19, .bool (((decide ((((n : Nat) : Int) : Int) < (0 : Int))) || (decide ((96 : Int) < (((n : Nat) : Int) : Int)))))), (24, .slice a l.length c), (25, .int .i64 (((l.length : Nat) : Int))), (26, .int .i64 (((i : Nat) : Int))), (27, .bool ((decide ((((i : Nat) : Int) : Int) < (((l.length : Nat) : Int) : Int)))))]) ⟨rfl, rfl, rfl, rfl, rfl, rfl, rfl, rfl, rfl, rfl, rfl, rfl, trivial⟩ ?_)
        refine WE.next ?_
        refine WC.seq ?_
        refine WC.seq ?_
        refine WC.region ?_
        refine WL.val (.pointer (some ⟨g59, 0, none⟩)) rfl rfl rfl (fun za zC zh zk => fld_34_0 rfl (zh.ev rfl) zk) ?_
        refine WL.val (.bool ((lget l i).neg)) rfl rfl rfl (fun za zC zh zk => ld_4 rfl (zh.ev rfl) ((hB104.cell 0).trans rfl) zk) ?_
        refine WL.nil (WE.sub (K' := [(0, .int .i64 (((n : Nat) : Int))), (1, .slice a l.length c), (2, .pointer (some ⟨g2, 0, none⟩)), (4, .slice none 0 0), (5, .pointer (some ⟨g20, 0, none⟩)), (7, .pointer (some ⟨g59, 0, none⟩)), (8, .pointer (some ⟨g83, 0, none⟩)), (19, .bool (((decide ((((n : Nat) : Int) : Int) < (0 : Int))) || (decide ((96 : Int) < (((n : Nat) : Int) : Int)))))), (24, .slice a l.length c), (25, .int .i64 (((l.length : Nat) : Int))), (26, .int .i64 (((i : Nat) : Int))), (27, .bool ((decide ((((i : Nat) : Int) : Int) < (((l.length : Nat) : Int) : Int))))), (31, .bool ((lget l i).neg))]) ⟨rfl, rfl, rfl, rfl, rfl, rfl, rfl, rfl, rfl, rfl, rfl, rfl, rfl, trivial⟩ ?_)
        refine WE.next ?_
        refine WC.cond rfl (fun h109 => ?_) (fun h109 => ?_)
        · skip
          refine WC.region ?_
          refine WL.step (post := fun _ w' => Upd g83 w93 w' ∧ Blk w' g83 3 #[.int .i64 1]) rfl rfl rfl (fun za zC zh zk => st_3 rfl (zh.ev rfl) (zh.ev rfl) hB95 (by first | decide | simp) (fun v => zk v _ ⟨Upd.at_ _ _ _ _, hB95.set_ 0 _⟩)) ?_
          rintro v113 w110 ⟨hu111, hB112⟩
          have hb114 := upd_below hb98 hu111 (by omega)
          have hB115 := upd_blk hB100 hu111 (by omega)
          have hB116 := upd_blk hB102 hu111 (by omega)
          have hB117 := upd_blk hB104 hu111 (by omega)
          have ho118 := ho106.upd hu111 (⟨_, hB95, rfl⟩)
          have ho119 := ho108.upd hu111 (by omega)
          refine WL.nil (WE.sub (K' := [(0, .int .i64 (((n : Nat) : Int))), (1, .slice a l.length c), (2, .pointer (some ⟨g2, 0, none⟩)), (4, .slice none 0 0), (5, .pointer (some ⟨g20, 0, none⟩)), (7, .pointer (some ⟨g59, 0, none⟩)), (8, .pointer (some ⟨g83, 0, none⟩)), (19, .bool (((decide ((((n : Nat) : Int) : Int) < (0 : Int))) || (decide ((96 : Int) < (((n : Nat) : Int) : Int)))))), (24, .slice a l.length c), (25, .int .i64 (((l.length : Nat) : Int))), (26, .int .i64 (((i : Nat) : Int))), (27, .bool ((decide ((((i : Nat) : Int) : Int) < (((l.length : Nat) : Int) : Int))))), (31, .bool ((lget l i).neg))]) ⟨rfl, rfl, rfl, rfl, rfl, rfl, rfl, rfl, rfl, rfl, rfl, rfl, rfl, trivial⟩ ?_)
          refine WE.next ?_
          refine WC.seq ?_
          refine WC.region ?_
          refine WL.val (.slice ((some ⟨ob, 0, none⟩)) ((2 + 4 * n)) ((2 + 4 * n))) rfl rfl rfl (fun za zC zh zk => ld_27 rfl (zh.ev rfl) ((hB116.cell 0).trans rfl) zk) ?_
          refine WL.val (.int .i64 1) rfl rfl rfl (fun za zC zh zk => ld_3 rfl (zh.ev rfl) ((hB112.cell 0).trans rfl) zk) ?_
          refine WL.val (.pointer (some ⟨ob, 1, none⟩)) rfl rfl rfl (fun za zC zh zk => ix_27 (k := 1) rfl (zh.ev rfl) rfl (zh.ev rfl) (by first | omega | (simp; omega)) zk) ?_
          refine WL.val (.int .i64 (((outG n l i) 1))) rfl rfl rfl (fun za zC zh zk => ld_3 rfl (zh.ev rfl) (IRow.cellAt ho119 (by omega) (by omega)) zk) ?_
          refine WL.val (.int .i64 ((((outG n l i) 1) + 1))) rfl rfl rfl (fun za zC zh zk => addb_3 rfl (zh.ev rfl) (zh.ev rfl) (wrap_eq rfl (by have z := hg0 1; omega) (by have z := hgb 1 (by unfold evn; omega); omega)) zk) ?_
          refine WL.val (.pointer (some ⟨ob, 1, none⟩)) rfl rfl rfl (fun za zC zh zk => ix_27 (k := 1) rfl (zh.ev rfl) rfl (zh.ev rfl) (by first | omega | (simp; omega)) zk) ?_
          refine WL.step (post := fun _ w' => Upd ob w110 w' ∧ IRow w' 3 ob (2 + 4 * n) (gset (outG n l i) 1 ((((outG n l i) 1) + 1)))) rfl rfl rfl (fun za zC zh zk => st_3 rfl (zh.ev rfl) (zh.ev rfl) (ho119).blk (IRow.size ho119 (by omega)) (fun v => zk v _ ⟨Upd.at_ _ _ _ _, IRow.setAt ho119 _ (by omega) (by omega)⟩)) ?_
          rintro v123 w120 ⟨hu121, hM122⟩
          have hb124 := upd_below hb114 hu121 (by omega)
          have hB125 := upd_blk hB115 hu121 (by omega)
          have hB126 := upd_blk hB116 hu121 (by omega)
          have hB127 := upd_blk hB117 hu121 (by omega)
          have hB128 := upd_blk hB112 hu121 (by omega)
          have ho129 := ho118.upd hu121 (⟨_, (ho119).blk, rfl⟩)
          refine WL.nil (WE.sub (K' := [(0, .int .i64 (((n : Nat) : Int))), (1, .slice a l.length c), (2, .pointer (some ⟨g2, 0, none⟩)), (4, .slice none 0 0), (5, .pointer (some ⟨g20, 0, none⟩)), (7, .pointer (some ⟨g59, 0, none⟩)), (8, .pointer (some ⟨g83, 0, none⟩)), (19, .bool (((decide ((((n : Nat) : Int) : Int) < (0 : Int))) || (decide ((96 : Int) < (((n : Nat) : Int) : Int)))))), (24, .slice a l.length c), (25, .int .i64 (((l.length : Nat) : Int))), (26, .int .i64 (((i : Nat) : Int))), (27, .bool ((decide ((((i : Nat) : Int) : Int) < (((l.length : Nat) : Int) : Int))))), (31, .bool ((lget l i).neg))]) ⟨rfl, rfl, rfl, rfl, rfl, rfl, rfl, rfl, rfl, rfl, rfl, rfl, rfl, trivial⟩ ?_)
          refine WE.next ?_
          refine WC.seq ?_
          refine WC.region ?_
          refine WL.val (.pointer (some ⟨g59, 1, none⟩)) rfl rfl rfl (fun za zC zh zk => fld_34_1 rfl (zh.ev rfl) zk) ?_
          refine WL.val (.agg #[.int .i64 ((lget l i).l.f), .slice ((A52 i)) ((lget l i).l.args.length) ((C53 i))]) rfl rfl rfl (fun za zC zh zk => ld_32 rfl (zh.ev rfl) ((hB127.cell 1).trans rfl) ((hB127.cell 2).trans rfl) zk) ?_
          refine WL.val (.pointer (some ⟨g59, 3, none⟩)) rfl rfl rfl (fun za zC zh zk => fld_34_2 rfl (zh.ev rfl) zk) ?_
          refine WL.val (.agg #[.int .i64 ((lget l i).r.f), .slice ((A54 i)) ((lget l i).r.args.length) ((C55 i))]) rfl rfl rfl (fun za zC zh zk => ld_32 rfl (zh.ev rfl) ((hB127.cell 3).trans rfl) ((hB127.cell 4).trans rfl) zk) ?_
          refine WL.step (post := NewRow w120 32 #[.int .i64 ((lget l i).l.f), .slice ((A52 i)) ((lget l i).l.args.length) ((C53 i)), .int .i64 ((lget l i).r.f), .slice ((A54 i)) ((lget l i).r.args.length) ((C55 i))] 2) rfl rfl rfl (fun za zC zh zk => row_30_2 rfl (zh.ev rfl) (zh.ev rfl) (zk _ _ (newRow _ _ _ _))) ?_
          rintro _ w130 ⟨g131, rfl, hg132, hB133, hb134, hz135⟩
          have hl136 : g2 < g131 := by have z1 := hB125.lt; omega
          have hl137 : g20 < g131 := by have z1 := hB126.lt; omega
          have hl138 : g59 < g131 := by have z1 := hB127.lt; omega
          have hl139 : g83 < g131 := by have z1 := hB128.lt; omega
          have hl140 : ob < g131 := by have z1 := hM122.lt; omega
          have hl141 : w.heap.size ≤ g131 := by have z2 := (hb124).size; omega
          refine WL.val (.int .i64 2) rfl rfl rfl (fun za zC zh zk => len_30 rfl (zh.ev rfl) zk) ?_
          refine WL.val (.int .i64 0) rfl rfl rfl (fun za zC zh zk => wp_move rfl (zh.ev rfl) zk) ?_
          refine WL.nil (WE.sub (K' := [(0, .int .i64 (((n : Nat) : Int))), (1, .slice a l.length c), (2, .pointer (some ⟨g2, 0, none⟩)), (4, .slice none 0 0), (5, .pointer (some ⟨g20, 0, none⟩)), (7, .pointer (some ⟨g59, 0, none⟩)), (8, .pointer (some ⟨g83, 0, none⟩)), (19, .bool (((decide ((((n : Nat) : Int) : Int) < (0 : Int))) || (decide ((96 : Int) < (((n : Nat) : Int) : Int)))))), (24, .slice a l.length c), (25, .int .i64 (((l.length : Nat) : Int))), (26, .int .i64 (((i : Nat) : Int))), (27, .bool ((decide ((((i : Nat) : Int) : Int) < (((l.length : Nat) : Int) : Int))))), (31, .bool ((lget l i).neg)), (42, .slice ((some ⟨g131, 0, none⟩)) 2 2), (43, .int .i64 2), (44, .int .i64 0)]) ⟨rfl, rfl, rfl, rfl, rfl, rfl, rfl, rfl, rfl, rfl, rfl, rfl, rfl, rfl, rfl, rfl, trivial⟩ ?_)
          refine WE.next ?_
          refine WC.block ?_
          have hway : 1 = (lget l i).way := li_way (by simpa using h109) rfl
          have hwl : 1 ≤ 1 := by decide
          have hg1 : ∀ k, 0 ≤ (gset (outG n l i) 1 (outG n l i 1 + 1)) k := inc_nonneg hg0
          have hg1b : ∀ k, evn k → (gset (outG n l i) 1 (outG n l i 1 + 1)) k ≤ i * 17179869184 + 1 := fun k hk => gset_ev hgb (by unfold evn; omega) hk
          have hb142 : Below w.heap.size w w130 := (bstep hb124 hb134)
          refine WC.loopD (X := Nat) (fun j => 2 - j) (fun j => [(0, .int .i64 (((n : Nat) : Int))), (1, .slice a l.length c), (2, .pointer (some ⟨g2, 0, none⟩)), (4, .slice none 0 0), (5, .pointer (some ⟨g20, 0, none⟩)), (7, .pointer (some ⟨g59, 0, none⟩)), (8, .pointer (some ⟨g83, 0, none⟩)), (19, .bool (((decide ((((n : Nat) : Int) : Int) < (0 : Int))) || (decide ((96 : Int) < (((n : Nat) : Int) : Int)))))), (24, .slice a l.length c), (25, .int .i64 (((l.length : Nat) : Int))), (26, .int .i64 (((i : Nat) : Int))), (27, .bool ((decide ((((i : Nat) : Int) : Int) < (((l.length : Nat) : Int) : Int))))), (31, .bool ((lget l i).neg)), (42, .slice ((some ⟨g131, 0, none⟩)) 2 2), (43, .int .i64 2), (44, .int .i64 (((j : Nat) : Int)))]) (fun j Dl144 w143 => j ≤ 2 ∧ (∀ k, 0 ≤ (inG n 1 (lget l i).l (lget l i).r (gset (outG n l i) 1 (outG n l i 1 + 1)) j) k) ∧ (∀ k, evn k → (inG n 1 (lget l i).l (lget l i).r (gset (outG n l i) 1 (outG n l i 1 + 1)) j) k ≤ i * 17179869184 + 1 + j * 4294967296) ∧ Below w.heap.size w w143 ∧ Blk w143 g2 3 #[.int .i64 (((n : Nat) : Int))] ∧ Blk w143 g20 27 #[.slice ((some ⟨ob, 0, none⟩)) ((2 + 4 * n)) ((2 + 4 * n))] ∧ Blk w143 g59 34 #[.bool ((lget l i).neg), .int .i64 ((lget l i).l.f), .slice ((A52 i)) ((lget l i).l.args.length) ((C53 i)), .int .i64 ((lget l i).r.f), .slice ((A54 i)) ((lget l i).r.args.length) ((C55 i))] ∧ Blk w143 g83 3 #[.int .i64 1] ∧ Blk w143 g131 32 #[.int .i64 ((lget l i).l.f), .slice ((A52 i)) ((lget l i).l.args.length) ((C53 i)), .int .i64 ((lget l i).r.f), .slice ((A54 i)) ((lget l i).r.args.length) ((C55 i))] ∧ Marks w.heap.size (w143) Dl144 ∧ IRow (w143) 3 ob (2 + 4 * n) (inG n 1 (lget l i).l (lget l i).r (gset (outG n l i) 1 (outG n l i 1 + 1)) j)) 0 Dl43 rfl ⟨rfl, rfl, rfl, rfl, rfl, rfl, rfl, rfl, rfl, rfl, rfl, rfl, rfl, rfl, rfl, rfl, trivial⟩ ?_ ?_
          · have hB145 := hB125.below hb134
            have hB146 := hB126.below hb134
            have hB147 := hB127.below hb134
            have hB148 := hB128.below hb134
            have ho149 := ho129.below hb134
            have ho150 := hM122.below hb134
            exact ⟨Nat.zero_le _, hg1, (fun k hk => by have z := hg1b k hk; rw [inG_zero]; omega), hb142, hB145, hB146, hB147, hB148, hB133, ho149, ho150⟩
          · rintro j Dl144 w143 ⟨hj, hj0, hj1, hb151, hB152, hB153, hB154, hB155, hB156, ho157, ho158⟩
            skip
            refine WC.seq ?_
            refine WC.region ?_
            refine WL.val (.bool ((decide ((((j : Nat) : Int) : Int) < (2 : Int))))) rfl rfl rfl (fun za zC zh zk => lss_3 rfl (zh.ev rfl) (zh.ev rfl) zk) ?_
            refine WL.nil (WE.sub (K' := [(0, .int .i64 (((n : Nat) : Int))), (1, .slice a l.length c), (2, .pointer (some ⟨g2, 0, none⟩)), (4, .slice none 0 0), (5, .pointer (some ⟨g20, 0, none⟩)), (7, .pointer (some ⟨g59, 0, none⟩)), (8, .pointer (some ⟨g83, 0, none⟩)), (19, .bool (((decide ((((n : Nat) : Int) : Int) < (0 : Int))) || (decide ((96 : Int) < (((n : Nat) : Int) : Int)))))), (24, .slice a l.length c), (25, .int .i64 (((l.length : Nat) : Int))), (26, .int .i64 (((i : Nat) : Int))), (27, .bool ((decide ((((i : Nat) : Int) : Int) < (((l.length : Nat) : Int) : Int))))), (31, .bool ((lget l i).neg)), (42, .slice ((some ⟨g131, 0, none⟩)) 2 2), (43, .int .i64 2), (44, .int .i64 (((j : Nat) : Int))), (45, .bool ((decide ((((j : Nat) : Int) : Int) < (2 : Int)))))]) ⟨rfl, rfl, rfl, rfl, rfl, rfl, rfl, rfl, rfl, rfl, rfl, rfl, rfl, rfl, rfl, rfl, rfl, trivial⟩ ?_)
            refine WE.next ?_
            refine WC.seq ?_
            refine WC.cond rfl (fun h159 => ?_) (fun h159 => ?_)
            · have h159 : (((j : Nat) : Int) : Int) < (2 : Int) := by simpa using h159
              have hj2 : j < 2 := by omega
              have hil : i < l.length := by omega
              have htz : (tget [(lget l i).l, (lget l i).r] j).size ≤ 4294967296 := two_size (hpl hil) (hpr hil) hj2
              refine WC.skip ?_
              refine WE.next ?_
              refine WC.seq ?_
              refine WC.block ?_
              refine WC.seq ?_
              refine WC.region ?_
              refine WL.val (.pointer (some ⟨g131, 0 + j * 2, none⟩)) rfl rfl rfl (fun za zC zh zk => ix_30 (k := j) rfl (zh.ev rfl) rfl (zh.ev rfl) (by first | omega | (simp; omega)) zk) ?_
              refine WL.val (.agg #[.int .i64 ((tget [(lget l i).l, (lget l i).r] j).f), .slice ((tw j ((A52 i)) ((A54 i)))) ((tget [(lget l i).l, (lget l i).r] j).args.length) ((tw j ((C53 i)) ((C55 i))))]) rfl rfl rfl (fun za zC zh zk => ld_32 rfl (zh.ev rfl) (two_cells (L := (lget l i).l) (R := (lget l i).r) hB156 (by omega)).1 (two_cells (L := (lget l i).l) (R := (lget l i).r) hB156 (by omega)).2 zk) ?_
              refine WL.step (post := NewBlk w143 32 #[.int .i64 0, .slice none 0 0]) rfl rfl rfl (fun za zC zh zk => alloc_32 rfl (zk _ _ (newBlk _ _ _))) ?_
              rintro _ w160 ⟨g161, rfl, hg162, hB163, hb164, hz165⟩
              have hl166 : g2 < g161 := by have z1 := hB152.lt; omega
              have hl167 : g20 < g161 := by have z1 := hB153.lt; omega
              have hl168 : g59 < g161 := by have z1 := hB154.lt; omega
              have hl169 : g83 < g161 := by have z1 := hB155.lt; omega
              have hl170 : g131 < g161 := by have z1 := hB156.lt; omega
              have hl171 : ob < g161 := by have z1 := ho158.lt; omega
              have hl172 : w.heap.size ≤ g161 := by have z2 := (hb151).size; omega
              refine WL.step (post := fun _ w' => Upd g161 w160 w' ∧ Blk w' g161 32 #[.int .i64 ((tget [(lget l i).l, (lget l i).r] j).f), .slice ((tw j ((A52 i)) ((A54 i)))) ((tget [(lget l i).l, (lget l i).r] j).args.length) ((tw j ((C53 i)) ((C55 i))))]) rfl rfl rfl (fun za zC zh zk => st_32 rfl (zh.ev rfl) (zh.ev rfl) rfl rfl hB163 (by first | decide | simp) (fun v => zk v _ ⟨(Upd.at_ _ _ _ _).trans (Upd.at_ _ _ _ _), (hB163.set_ 0 _).set_ 1 _⟩)) ?_
              rintro v176 w173 ⟨hu174, hB175⟩
              have hb177 : Below w.heap.size w w160 := (bstep hb151 hb164)
              have hb178 := upd_below hb177 hu174 (by omega)
              have hB179 := hB152.below hb164
              have hB180 := upd_blk hB179 hu174 (by omega)
              have hB181 := hB153.below hb164
              have hB182 := upd_blk hB181 hu174 (by omega)
              have hB183 := hB154.below hb164
              have hB184 := upd_blk hB183 hu174 (by omega)
              have hB185 := hB155.below hb164
              have hB186 := upd_blk hB185 hu174 (by omega)
              have hB187 := hB156.below hb164
              have hB188 := upd_blk hB187 hu174 (by omega)
              have ho189 := ho157.below hb164
              have ho190 := ho189.upd hu174 (⟨_, hB163, rfl⟩)
              have ho191 := ho158.below hb164
              have ho192 := ho191.upd hu174 (by omega)
              refine WL.nil (WE.sub (K' := [(0, .int .i64 (((n : Nat) : Int))), (1, .slice a l.length c), (2, .pointer (some ⟨g2, 0, none⟩)), (4, .slice none 0 0), (5, .pointer (some ⟨g20, 0, none⟩)), (7, .pointer (some ⟨g59, 0, none⟩)), (8, .pointer (some ⟨g83, 0, none⟩)), (10, .pointer (some ⟨g161, 0, none⟩)), (19, .bool (((decide ((((n : Nat) : Int) : Int) < (0 : Int))) || (decide ((96 : Int) < (((n : Nat) : Int) : Int)))))), (24, .slice a l.length c), (25, .int .i64 (((l.length : Nat) : Int))), (26, .int .i64 (((i : Nat) : Int))), (27, .bool ((decide ((((i : Nat) : Int) : Int) < (((l.length : Nat) : Int) : Int))))), (31, .bool ((lget l i).neg)), (42, .slice ((some ⟨g131, 0, none⟩)) 2 2), (43, .int .i64 2), (44, .int .i64 (((j : Nat) : Int))), (45, .bool ((decide ((((j : Nat) : Int) : Int) < (2 : Int)))))]) ⟨rfl, rfl, rfl, rfl, rfl, rfl, rfl, rfl, rfl, rfl, rfl, rfl, rfl, rfl, rfl, rfl, rfl, rfl, trivial⟩ ?_)
              refine WE.next ?_
              refine WC.seq ?_
              refine WC.seq ?_
              refine WC.opt [(true, .val (.pointer (some ⟨g161, 0, none⟩))), (true, .val (.int .i64 ((tget [(lget l i).l, (lget l i).r] j).f))), (true, .val (.bool ((((tget [(lget l i).l, (lget l i).r] j).f : Int) == (0 : Int))))), (true, .val (.bool ((((tget [(lget l i).l, (lget l i).r] j).f : Int) == (0 : Int))))), ((true && (((tget [(lget l i).l, (lget l i).r] j).f : Int) == (0 : Int))), .val (.pointer (some ⟨g161, 1, none⟩))), ((true && (((tget [(lget l i).l, (lget l i).r] j).f : Int) == (0 : Int))), .val (.slice ((tw j ((A52 i)) ((A54 i)))) ((tget [(lget l i).l, (lget l i).r] j).args.length) ((tw j ((C53 i)) ((C55 i)))))), ((true && (((tget [(lget l i).l, (lget l i).r] j).f : Int) == (0 : Int))), .val (.int .i64 ((((tget [(lget l i).l, (lget l i).r] j).args.length : Nat) : Int)))), ((true && (((tget [(lget l i).l, (lget l i).r] j).f : Int) == (0 : Int))), .val (.bool ((((((tget [(lget l i).l, (lget l i).r] j).args.length : Nat) : Int) : Int) == (0 : Int))))), (true, .val (.bool (((((tget [(lget l i).l, (lget l i).r] j).f : Int) == (0 : Int)) && (((((tget [(lget l i).l, (lget l i).r] j).args.length : Nat) : Int) : Int) == (0 : Int))))))] [(0, .int .i64 (((n : Nat) : Int))), (1, .slice a l.length c), (2, .pointer (some ⟨g2, 0, none⟩)), (4, .slice none 0 0), (5, .pointer (some ⟨g20, 0, none⟩)), (7, .pointer (some ⟨g59, 0, none⟩)), (8, .pointer (some ⟨g83, 0, none⟩)), (10, .pointer (some ⟨g161, 0, none⟩)), (19, .bool (((decide ((((n : Nat) : Int) : Int) < (0 : Int))) || (decide ((96 : Int) < (((n : Nat) : Int) : Int)))))), (24, .slice a l.length c), (25, .int .i64 (((l.length : Nat) : Int))), (26, .int .i64 (((i : Nat) : Int))), (27, .bool ((decide ((((i : Nat) : Int) : Int) < (((l.length : Nat) : Int) : Int))))), (31, .bool ((lget l i).neg)), (42, .slice ((some ⟨g131, 0, none⟩)) 2 2), (43, .int .i64 2), (44, .int .i64 (((j : Nat) : Int))), (45, .bool ((decide ((((j : Nat) : Int) : Int) < (2 : Int)))))] ⟨rfl, rfl, rfl, rfl, rfl, rfl, rfl, rfl, rfl, rfl, rfl, rfl, rfl, rfl, rfl, rfl, rfl, rfl, trivial⟩ (by kernel_rfl) (by kernel_rfl) (by kernel_rfl) ?_ ?_
              · refine ⟨⟨true, .none rfl, fun h w => optUndef h, fun zβ za zw zc => ?_⟩, ?_⟩
                · exact fld_32_0 rfl (zc.kn.ev rfl) ⟨_, rfl, Below.refl _ _, optDef zβ rfl⟩
                refine ⟨⟨true, .none rfl, fun h w => optUndef h, fun zβ za zw zc => ?_⟩, ?_⟩
                · exact ld_3 rfl ((show za.eval (.tmp 48) = za.tmps.getD 48 undef from rfl).trans (optVal (zc.dep 0 48 (by kernel_rfl)) rfl rfl)) (bkeeps zc.below _ _ ((hB175.cell 0).trans rfl)) ⟨_, rfl, Below.refl _ _, optDef zβ rfl⟩
                refine ⟨⟨true, .none rfl, fun h w => optUndef h, fun zβ za zw zc => ?_⟩, ?_⟩
                · exact eql_3 rfl ((show za.eval (.tmp 49) = za.tmps.getD 49 undef from rfl).trans (optVal (zc.dep 1 49 (by kernel_rfl)) rfl rfl)) (zc.kn.ev rfl) ⟨_, rfl, Below.refl _ _, optDef zβ rfl⟩
                refine ⟨⟨true, .none rfl, fun h w => optUndef h, fun zβ za zw zc => ?_⟩, ?_⟩
                · exact wp_move rfl ((show za.eval (.tmp 50) = za.tmps.getD 50 undef from rfl).trans (optVal (zc.dep 2 50 (by kernel_rfl)) rfl rfl)) ⟨_, rfl, Below.refl _ _, optDef zβ rfl⟩
                refine ⟨⟨(true && (((tget [(lget l i).l, (lget l i).r] j).f : Int) == (0 : Int))), .yes (c := (((tget [(lget l i).l, (lget l i).r] j).f : Int) == (0 : Int))) (d := true) rfl (fun v w h => h), fun h w => optUndef h, fun zβ za zw zc => ?_⟩, ?_⟩
                · exact fld_32_1 rfl (zc.kn.ev rfl) ⟨_, rfl, Below.refl _ _, optDef zβ rfl⟩
                refine ⟨⟨(true && (((tget [(lget l i).l, (lget l i).r] j).f : Int) == (0 : Int))), .yes (c := (((tget [(lget l i).l, (lget l i).r] j).f : Int) == (0 : Int))) (d := true) rfl (fun v w h => h), fun h w => optUndef h, fun zβ za zw zc => ?_⟩, ?_⟩
                · exact ld_30 rfl ((show za.eval (.tmp 52) = za.tmps.getD 52 undef from rfl).trans (optVal (zc.dep 4 52 (by kernel_rfl)) rfl zβ)) (bkeeps zc.below _ _ ((hB175.cell 1).trans rfl)) ⟨_, rfl, Below.refl _ _, optDef zβ rfl⟩
                refine ⟨⟨(true && (((tget [(lget l i).l, (lget l i).r] j).f : Int) == (0 : Int))), .yes (c := (((tget [(lget l i).l, (lget l i).r] j).f : Int) == (0 : Int))) (d := true) rfl (fun v w h => h), fun h w => optUndef h, fun zβ za zw zc => ?_⟩, ?_⟩
                · exact len_30 rfl ((show za.eval (.tmp 53) = za.tmps.getD 53 undef from rfl).trans (optVal (zc.dep 5 53 (by kernel_rfl)) rfl zβ)) ⟨_, rfl, Below.refl _ _, optDef zβ rfl⟩
                refine ⟨⟨(true && (((tget [(lget l i).l, (lget l i).r] j).f : Int) == (0 : Int))), .yes (c := (((tget [(lget l i).l, (lget l i).r] j).f : Int) == (0 : Int))) (d := true) rfl (fun v w h => h), fun h w => optUndef h, fun zβ za zw zc => ?_⟩, ?_⟩
                · exact eql_3 rfl ((show za.eval (.tmp 54) = za.tmps.getD 54 undef from rfl).trans (optVal (zc.dep 6 54 (by kernel_rfl)) rfl zβ)) (zc.kn.ev rfl) ⟨_, rfl, Below.refl _ _, optDef zβ rfl⟩
                refine ⟨⟨true, .none rfl, fun h w => optUndef h, fun zβ za zw zc => ?_⟩, ?_⟩
                · exact wp_and rfl ((show za.eval (.tmp 51) = za.tmps.getD 51 undef from rfl).trans (optVal (zc.dep 3 51 (by kernel_rfl)) rfl rfl)) (fun hp => ((show za.eval (.tmp 55) = za.tmps.getD 55 undef from rfl).trans (optVal (zc.dep 7 55 (by kernel_rfl)) rfl (bMk zβ hp)))) ⟨_, rfl, Below.refl _ _, optDef zβ rfl⟩
                exact trivial
              · intro za w193 zh hb194 zu
                have zh := zh.cons (d := 56) (v := .bool (((((tget [(lget l i).l, (lget l i).r] j).f : Int) == (0 : Int)) && (((((tget [(lget l i).l, (lget l i).r] j).args.length : Nat) : Int) : Int) == (0 : Int))))) (optVal (zu 8 56 (by kernel_rfl)) rfl rfl)
                clear zu
                refine (show WE _ [(0, .int .i64 (((n : Nat) : Int))), (1, .slice a l.length c), (2, .pointer (some ⟨g2, 0, none⟩)), (4, .slice none 0 0), (5, .pointer (some ⟨g20, 0, none⟩)), (7, .pointer (some ⟨g59, 0, none⟩)), (8, .pointer (some ⟨g83, 0, none⟩)), (10, .pointer (some ⟨g161, 0, none⟩)), (19, .bool (((decide ((((n : Nat) : Int) : Int) < (0 : Int))) || (decide ((96 : Int) < (((n : Nat) : Int) : Int)))))), (24, .slice a l.length c), (25, .int .i64 (((l.length : Nat) : Int))), (26, .int .i64 (((i : Nat) : Int))), (27, .bool ((decide ((((i : Nat) : Int) : Int) < (((l.length : Nat) : Int) : Int))))), (31, .bool ((lget l i).neg)), (42, .slice ((some ⟨g131, 0, none⟩)) 2 2), (43, .int .i64 2), (44, .int .i64 (((j : Nat) : Int))), (45, .bool ((decide ((((j : Nat) : Int) : Int) < (2 : Int))))), (56, .bool (((((tget [(lget l i).l, (lget l i).r] j).f : Int) == (0 : Int)) && (((((tget [(lget l i).l, (lget l i).r] j).args.length : Nat) : Int) : Int) == (0 : Int)))))] w193 _ .normal from ?_) za (zh.sub ⟨rfl, rfl, rfl, rfl, rfl, rfl, rfl, rfl, rfl, rfl, rfl, rfl, rfl, rfl, rfl, rfl, rfl, rfl, rfl, trivial⟩)
                refine WE.next ?_
                refine WC.cond rfl (fun h195 => ?_) (fun h195 => ?_)
                · have h195 : (((tget [(lget l i).l, (lget l i).r] j).f : Int) = (0 : Int)) ∧ (((((tget [(lget l i).l, (lget l i).r] j).args.length : Nat) : Int) : Int) = (0 : Int)) := by simpa using h195
                  have htt : (tget [(lget l i).l, (lget l i).r] j).isTrue = true := T.isTrue_iff.2 (by have z := h195; omega)
                  have hgn : (inG n 1 (lget l i).l (lget l i).r (gset (outG n l i) 1 (outG n l i 1 + 1)) (j + 1)) = (inG n 1 (lget l i).l (lget l i).r (gset (outG n l i) 1 (outG n l i 1 + 1)) j) := by rw [inG_succ hj2]; unfold sideP; rw [if_pos htt]
                  refine WC.exit ?_
                  refine WE.thenExit ?_
                  refine WE.blockIs rfl ?_
                  refine WE.next ?_
                  refine WC.region ?_
                  refine WL.val (.int .i64 ((((j + 1) : Nat) : Int))) rfl rfl rfl (fun za zC zh zk => addb_3 rfl (zh.ev rfl) (zh.ev rfl) (wrap_eq (by omega) (by omega) (by omega)) zk) ?_
                  refine WL.val (.int .i64 ((((j + 1) : Nat) : Int))) rfl rfl rfl (fun za zC zh zk => wp_move rfl (zh.ev rfl) zk) ?_
                  refine WL.nil (WE.sub (K' := [(0, .int .i64 (((n : Nat) : Int))), (1, .slice a l.length c), (2, .pointer (some ⟨g2, 0, none⟩)), (4, .slice none 0 0), (5, .pointer (some ⟨g20, 0, none⟩)), (7, .pointer (some ⟨g59, 0, none⟩)), (8, .pointer (some ⟨g83, 0, none⟩)), (10, .pointer (some ⟨g161, 0, none⟩)), (19, .bool (((decide ((((n : Nat) : Int) : Int) < (0 : Int))) || (decide ((96 : Int) < (((n : Nat) : Int) : Int)))))), (24, .slice a l.length c), (25, .int .i64 (((l.length : Nat) : Int))), (26, .int .i64 (((i : Nat) : Int))), (27, .bool ((decide ((((i : Nat) : Int) : Int) < (((l.length : Nat) : Int) : Int))))), (31, .bool ((lget l i).neg)), (42, .slice ((some ⟨g131, 0, none⟩)) 2 2), (43, .int .i64 2), (44, .int .i64 ((((j + 1) : Nat) : Int))), (45, .bool ((decide ((((j : Nat) : Int) : Int) < (2 : Int))))), (56, .bool (((((tget [(lget l i).l, (lget l i).r] j).f : Int) == (0 : Int)) && (((((tget [(lget l i).l, (lget l i).r] j).args.length : Nat) : Int) : Int) == (0 : Int)))))]) ⟨rfl, rfl, rfl, rfl, rfl, rfl, rfl, rfl, rfl, rfl, rfl, rfl, rfl, rfl, rfl, rfl, rfl, rfl, rfl, trivial⟩ ?_)
                  refine WE.roundD (j + 1) Dl144 rfl ⟨rfl, rfl, rfl, rfl, rfl, rfl, rfl, rfl, rfl, rfl, rfl, rfl, rfl, rfl, rfl, rfl, trivial⟩ ?_ ?_
                  · have hb196 : Below w.heap.size w w193 := (bstep hb178 hb194)
                    have hB197 := hB180.below hb194
                    have hB198 := hB182.below hb194
                    have hB199 := hB184.below hb194
                    have hB200 := hB186.below hb194
                    have hB201 := hB188.below hb194
                    have ho202 := ho190.below hb194
                    have ho203 := ho192.below hb194
                    exact ⟨by omega, (by rw [hgn]; exact hj0), (fun k hk => by rw [hgn]; have z := hj1 k hk; omega), hb196, hB197, hB198, hB199, hB200, hB201, ho202, (IRow.congr ho203 hgn.symm)⟩
                  · omega
                · have h195 : ¬ ((((tget [(lget l i).l, (lget l i).r] j).f : Int) = (0 : Int)) ∧ (((((tget [(lget l i).l, (lget l i).r] j).args.length : Nat) : Int) : Int) = (0 : Int))) := by simpa using h195
                  have htt : ¬ (tget [(lget l i).l, (lget l i).r] j).isTrue = true := fun q => by have z := T.isTrue_iff.1 q; have z2 := h195; omega
                  refine WC.skip ?_
                  refine WE.next ?_
                  refine WC.seq ?_
                  refine WC.region ?_
                  have hB204 := hB175.below hb194
                  refine WL.val (.agg #[.int .i64 ((tget [(lget l i).l, (lget l i).r] j).f), .slice ((tw j ((A52 i)) ((A54 i)))) ((tget [(lget l i).l, (lget l i).r] j).args.length) ((tw j ((C53 i)) ((C55 i))))]) rfl rfl rfl (fun za zC zh zk => ld_32 rfl (zh.ev rfl) ((hB204.cell 0).trans rfl) ((hB204.cell 1).trans rfl) zk) ?_
                  have ho205 := ho192.below hb194
                  have hobp := ho205.lt
                  refine WL.call rfl rfl rfl (fun za zh zC => wp_call (by kernel_rfl) rfl (hv1 (zh.ev rfl))) (places_any (tget [(lget l i).l, (lget l i).r] j) _ _ _) ?_
                  rintro _ w206 ⟨⟨gt, rfl, hgl, hgt⟩, hbp⟩
                  refine WL.nil (WE.sub (K' := [(0, .int .i64 (((n : Nat) : Int))), (1, .slice a l.length c), (2, .pointer (some ⟨g2, 0, none⟩)), (4, .slice none 0 0), (5, .pointer (some ⟨g20, 0, none⟩)), (7, .pointer (some ⟨g59, 0, none⟩)), (8, .pointer (some ⟨g83, 0, none⟩)), (10, .pointer (some ⟨g161, 0, none⟩)), (19, .bool (((decide ((((n : Nat) : Int) : Int) < (0 : Int))) || (decide ((96 : Int) < (((n : Nat) : Int) : Int)))))), (24, .slice a l.length c), (25, .int .i64 (((l.length : Nat) : Int))), (26, .int .i64 (((i : Nat) : Int))), (27, .bool ((decide ((((i : Nat) : Int) : Int) < (((l.length : Nat) : Int) : Int))))), (31, .bool ((lget l i).neg)), (42, .slice ((some ⟨g131, 0, none⟩)) 2 2), (43, .int .i64 2), (44, .int .i64 (((j : Nat) : Int))), (45, .bool ((decide ((((j : Nat) : Int) : Int) < (2 : Int))))), (56, .bool (((((tget [(lget l i).l, (lget l i).r] j).f : Int) == (0 : Int)) && (((((tget [(lget l i).l, (lget l i).r] j).args.length : Nat) : Int) : Int) == (0 : Int))))), (58, .func (.func 45) #[] #[.pointer (some ⟨gt, 0, none⟩)])]) ⟨rfl, rfl, rfl, rfl, rfl, rfl, rfl, rfl, rfl, rfl, rfl, rfl, rfl, rfl, rfl, rfl, rfl, rfl, rfl, rfl, trivial⟩ ?_)
                  refine WE.next ?_
                  refine WC.block ?_
                  have ho207 := ho205.below hbp
                  have hLw := IsT.inT (InT.isT (hc57 i (by first | omega | (simp; omega))).2.2.2.2.2.1)
                  have hRw := IsT.inT (InT.isT (hc57 i (by first | omega | (simp; omega))).2.2.2.2.2.2)
                  have hobl := ho207.lt
                  have hob : w.heap.size ≤ ob := hob9
                  have hb208 : Below w.heap.size w w206 := (bstep (bstep hb178 hb194) hbp)
                  have htS : InT (fun b => ¬ b = ob) w206 (tget [(lget l i).l, (lget l i).r] j) (.agg #[.int .i64 (tget [(lget l i).l, (lget l i).r] j).f, .slice (tw j ((A52 i)) ((A54 i))) (tget [(lget l i).l, (lget l i).r] j).args.length (tw j ((C53 i)) ((C55 i)))]) := (InT.old (B := w.heap.size) hb208 (Nat.le_refl _) (two_in hLw hRw hj2)).mono (fun b q _ e => by (try dsimp only at *); omega)
                  have hpln := T.pl_len (tget [(lget l i).l, (lget l i).r] j) 1
                  have hb211 : Below w173.heap.size w173 w206 := (bstep hb194 hbp)
                  have ho210 := ho190.below hb211
                  refine WC.rangeK (γ := Unit) (encs := fun zx => [.int .i64 (((zx.1 : Nat) : Int)), .int .i64 (((zx.2 : Nat) : Int))]) ((fun b => b = ob)) rfl (by kernel_rfl) (by kernel_rfl) (places_seq (w0 := w206) (fun b => b = ob) (fun b q e => by have e2 : b = ob := e; omega) (by (try dsimp only); omega) hgt htS htz)  ((Below.refl _ _)) (fun _ => rfl) (fun x zy => [(0, .int .i64 (((n : Nat) : Int))), (1, .slice a l.length c), (2, .pointer (some ⟨g2, 0, none⟩)), (4, .slice none 0 0), (5, .pointer (some ⟨g20, 0, none⟩)), (7, .pointer (some ⟨g59, 0, none⟩)), (8, .pointer (some ⟨g83, 0, none⟩)), (10, .pointer (some ⟨g161, 0, none⟩)), (11, .int .i64 (((x.1 : Nat) : Int))), (12, .int .i64 (((x.2 : Nat) : Int))), (19, .bool (((decide ((((n : Nat) : Int) : Int) < (0 : Int))) || (decide ((96 : Int) < (((n : Nat) : Int) : Int)))))), (24, .slice a l.length c), (25, .int .i64 (((l.length : Nat) : Int))), (26, .int .i64 (((i : Nat) : Int))), (27, .bool ((decide ((((i : Nat) : Int) : Int) < (((l.length : Nat) : Int) : Int))))), (31, .bool ((lget l i).neg)), (42, .slice ((some ⟨g131, 0, none⟩)) 2 2), (43, .int .i64 2), (44, .int .i64 (((j : Nat) : Int))), (45, .bool ((decide ((((j : Nat) : Int) : Int) < (2 : Int))))), (56, .bool (((((tget [(lget l i).l, (lget l i).r] j).f : Int) == (0 : Int)) && (((((tget [(lget l i).l, (lget l i).r] j).args.length : Nat) : Int) : Int) == (0 : Int))))), (58, .func (.func 45) #[] #[.pointer (some ⟨gt, 0, none⟩)])]) (fun x zy w209 => True) (fun pre w209 => IRow w209 3 ob (2 + 4 * n) (pre.foldl (put1 n 1) (inG n 1 (lget l i).l (lget l i).r (gset (outG n l i) 1 (outG n l i 1 + 1)) j)) ∧ w206.heap.size ≤ (w209).heap.size ∧ Below w.heap.size w w209 ∧ Blk w209 g2 3 #[.int .i64 (((n : Nat) : Int))] ∧ Blk w209 g20 27 #[.slice ((some ⟨ob, 0, none⟩)) ((2 + 4 * n)) ((2 + 4 * n))] ∧ Blk w209 g59 34 #[.bool ((lget l i).neg), .int .i64 ((lget l i).l.f), .slice ((A52 i)) ((lget l i).l.args.length) ((C53 i)), .int .i64 ((lget l i).r.f), .slice ((A54 i)) ((lget l i).r.args.length) ((C55 i))] ∧ Blk w209 g83 3 #[.int .i64 1] ∧ Blk w209 g131 32 #[.int .i64 ((lget l i).l.f), .slice ((A52 i)) ((lget l i).l.args.length) ((C53 i)), .int .i64 ((lget l i).r.f), .slice ((A54 i)) ((lget l i).r.args.length) ((C55 i))] ∧ Blk w209 g161 32 #[.int .i64 ((tget [(lget l i).l, (lget l i).r] j).f), .slice ((tw j ((A52 i)) ((A54 i)))) ((tget [(lget l i).l, (lget l i).r] j).args.length) ((tw j ((C53 i)) ((C55 i))))] ∧ Blk w209 gt 32 #[.int .i64 ((tget [(lget l i).l, (lget l i).r] j).f), .slice ((tw j ((A52 i)) ((A54 i)))) ((tget [(lget l i).l, (lget l i).r] j).args.length) ((tw j ((C53 i)) ((C55 i))))] ∧ Marks w.heap.size w209 Dl144) (fun zc pre w209 => False) (fun pre w1 w2 t h => (by obtain ⟨z0, z1, z2, z3, z4, z5, z6, z7, z8, z9, z10⟩ := h; exact ⟨IRow.turn z0 t, Nat.le_trans z1 t.size, below_turn z2 t hb208.size, blk_turn z3 t, blk_turn z4 t, blk_turn z5 t, blk_turn z6 t, blk_turn z7 t, blk_turn z8 t, blk_turn z9 t, Marks.turn z10 t (fun D hD => Marks.lt ho210 hD)⟩)) (fun zc pre w1 w2 t h => h.elim) (fun x zy w1 w2 t h => h) ?_ ?_ ?_ ?_ ?_
                  · have hB212 := hB180.below hb211
                    have hB213 := hB182.below hb211
                    have hB214 := hB184.below hb211
                    have hB215 := hB186.below hb211
                    have hB216 := hB188.below hb211
                    have hB217 := hB204.below hbp
                    exact ⟨ho207, (Nat.le_refl _), hb208, hB212, hB213, hB214, hB215, hB216, hB217, hgt, ho210⟩
                  · rintro zl218 pre x w219 ⟨_, hzs, hb220, _, _, _, _, _, _, _, _⟩
                    refine WC.sub (K' := [(0, .int .i64 (((n : Nat) : Int))), (1, .slice a l.length c), (2, .pointer (some ⟨g2, 0, none⟩)), (4, .slice none 0 0), (5, .pointer (some ⟨g20, 0, none⟩)), (7, .pointer (some ⟨g59, 0, none⟩)), (8, .pointer (some ⟨g83, 0, none⟩)), (10, .pointer (some ⟨g161, 0, none⟩)), (19, .bool (((decide ((((n : Nat) : Int) : Int) < (0 : Int))) || (decide ((96 : Int) < (((n : Nat) : Int) : Int)))))), (24, .slice a l.length c), (25, .int .i64 (((l.length : Nat) : Int))), (26, .int .i64 (((i : Nat) : Int))), (27, .bool ((decide ((((i : Nat) : Int) : Int) < (((l.length : Nat) : Int) : Int))))), (31, .bool ((lget l i).neg)), (42, .slice ((some ⟨g131, 0, none⟩)) 2 2), (43, .int .i64 2), (44, .int .i64 (((j : Nat) : Int))), (45, .bool ((decide ((((j : Nat) : Int) : Int) < (2 : Int))))), (56, .bool (((((tget [(lget l i).l, (lget l i).r] j).f : Int) == (0 : Int)) && (((((tget [(lget l i).l, (lget l i).r] j).args.length : Nat) : Int) : Int) == (0 : Int))))), (58, .func (.func 45) #[] #[.pointer (some ⟨gt, 0, none⟩)]), (59, .int .i64 (((x.1 : Nat) : Int))), (60, .int .i64 (((x.2 : Nat) : Int)))]) ⟨rfl, rfl, rfl, rfl, rfl, rfl, rfl, rfl, rfl, rfl, rfl, rfl, rfl, rfl, rfl, rfl, rfl, rfl, rfl, rfl, rfl, rfl, trivial⟩ ?_
                    refine WC.seq ?_
                    refine WC.region ?_
                    refine WL.val (.int .i64 (((x.1 : Nat) : Int))) rfl rfl rfl (fun za zC zh zk => wp_assign rfl (zh.ev rfl) zk) ?_
                    refine WL.nil (WE.sub (K' := [(0, .int .i64 (((n : Nat) : Int))), (1, .slice a l.length c), (2, .pointer (some ⟨g2, 0, none⟩)), (4, .slice none 0 0), (5, .pointer (some ⟨g20, 0, none⟩)), (7, .pointer (some ⟨g59, 0, none⟩)), (8, .pointer (some ⟨g83, 0, none⟩)), (10, .pointer (some ⟨g161, 0, none⟩)), (11, .int .i64 (((x.1 : Nat) : Int))), (19, .bool (((decide ((((n : Nat) : Int) : Int) < (0 : Int))) || (decide ((96 : Int) < (((n : Nat) : Int) : Int)))))), (24, .slice a l.length c), (25, .int .i64 (((l.length : Nat) : Int))), (26, .int .i64 (((i : Nat) : Int))), (27, .bool ((decide ((((i : Nat) : Int) : Int) < (((l.length : Nat) : Int) : Int))))), (31, .bool ((lget l i).neg)), (42, .slice ((some ⟨g131, 0, none⟩)) 2 2), (43, .int .i64 2), (44, .int .i64 (((j : Nat) : Int))), (45, .bool ((decide ((((j : Nat) : Int) : Int) < (2 : Int))))), (56, .bool (((((tget [(lget l i).l, (lget l i).r] j).f : Int) == (0 : Int)) && (((((tget [(lget l i).l, (lget l i).r] j).args.length : Nat) : Int) : Int) == (0 : Int))))), (58, .func (.func 45) #[] #[.pointer (some ⟨gt, 0, none⟩)]), (59, .int .i64 (((x.1 : Nat) : Int))), (60, .int .i64 (((x.2 : Nat) : Int)))]) ⟨rfl, rfl, rfl, rfl, rfl, rfl, rfl, rfl, rfl, rfl, rfl, rfl, rfl, rfl, rfl, rfl, rfl, rfl, rfl, rfl, rfl, rfl, rfl, trivial⟩ ?_)
                    refine WE.next ?_
                    refine WC.region ?_
                    refine WL.val (.int .i64 (((x.2 : Nat) : Int))) rfl rfl rfl (fun za zC zh zk => wp_assign rfl (zh.ev rfl) zk) ?_
                    refine WL.nil (WE.sub (K' := [(0, .int .i64 (((n : Nat) : Int))), (1, .slice a l.length c), (2, .pointer (some ⟨g2, 0, none⟩)), (4, .slice none 0 0), (5, .pointer (some ⟨g20, 0, none⟩)), (7, .pointer (some ⟨g59, 0, none⟩)), (8, .pointer (some ⟨g83, 0, none⟩)), (10, .pointer (some ⟨g161, 0, none⟩)), (11, .int .i64 (((x.1 : Nat) : Int))), (12, .int .i64 (((x.2 : Nat) : Int))), (19, .bool (((decide ((((n : Nat) : Int) : Int) < (0 : Int))) || (decide ((96 : Int) < (((n : Nat) : Int) : Int)))))), (24, .slice a l.length c), (25, .int .i64 (((l.length : Nat) : Int))), (26, .int .i64 (((i : Nat) : Int))), (27, .bool ((decide ((((i : Nat) : Int) : Int) < (((l.length : Nat) : Int) : Int))))), (31, .bool ((lget l i).neg)), (42, .slice ((some ⟨g131, 0, none⟩)) 2 2), (43, .int .i64 2), (44, .int .i64 (((j : Nat) : Int))), (45, .bool ((decide ((((j : Nat) : Int) : Int) < (2 : Int))))), (56, .bool (((((tget [(lget l i).l, (lget l i).r] j).f : Int) == (0 : Int)) && (((((tget [(lget l i).l, (lget l i).r] j).args.length : Nat) : Int) : Int) == (0 : Int))))), (58, .func (.func 45) #[] #[.pointer (some ⟨gt, 0, none⟩)]), (59, .int .i64 (((x.1 : Nat) : Int))), (60, .int .i64 (((x.2 : Nat) : Int)))]) ⟨rfl, rfl, rfl, rfl, rfl, rfl, rfl, rfl, rfl, rfl, rfl, rfl, rfl, rfl, rfl, rfl, rfl, rfl, rfl, rfl, rfl, rfl, rfl, rfl, trivial⟩ ?_)
                    exact fun _ zk => ⟨(Below.refl _ _), (), zk.sub ⟨rfl, rfl, rfl, rfl, rfl, rfl, rfl, rfl, rfl, rfl, rfl, rfl, rfl, rfl, rfl, rfl, rfl, rfl, rfl, rfl, rfl, rfl, trivial⟩, trivial⟩
                  · rintro zl221 pre x zy w222 ⟨hMr, hz232, hb224, hB225, hB226, hB227, hB228, hB229, hB230, hB231, hzm⟩ _ hl223
                    have hpf0 : ∀ k, 0 ≤ (pre.foldl (put1 n 1) (inG n 1 (lget l i).l (lget l i).r (gset (outG n l i) 1 (outG n l i 1 + 1)) j)) k := put1_fold_nonneg _ _ hj0
                    have hpf1 : ∀ k, evn k → (pre.foldl (put1 n 1) (inG n 1 (lget l i).l (lget l i).r (gset (outG n l i) 1 (outG n l i 1 + 1)) j)) k ≤ i * 17179869184 + 1 + j * 4294967296 + pre.length := fun k hk => by have z := put1_fold_ev (n := n) (way := 1) hk pre (inG n 1 (lget l i).l (lget l i).r (gset (outG n l i) 1 (outG n l i 1 + 1)) j); have z2 := hj1 k hk; omega
                    refine WC.block ?_
                    refine WC.seq ?_
                    refine WC.seq ?_
                    refine WC.region ?_
                    refine WL.val (.int .i64 (((x.1 : Nat) : Int))) rfl rfl rfl (fun za zC zh zk => wp_move rfl (zh.ev rfl) zk) ?_
                    refine WL.val (.int .i64 (((n : Nat) : Int))) rfl rfl rfl (fun za zC zh zk => ld_3 rfl (zh.ev rfl) ((hB225.cell 0).trans rfl) zk) ?_
                    refine WL.val (.bool ((decide ((((n : Nat) : Int) : Int) ≤ (((x.1 : Nat) : Int) : Int))))) rfl rfl rfl (fun za zC zh zk => geq_3 rfl (zh.ev rfl) (zh.ev rfl) zk) ?_
                    refine WL.nil (WE.sub (K' := [(0, .int .i64 (((n : Nat) : Int))), (1, .slice a l.length c), (2, .pointer (some ⟨g2, 0, none⟩)), (4, .slice none 0 0), (5, .pointer (some ⟨g20, 0, none⟩)), (7, .pointer (some ⟨g59, 0, none⟩)), (8, .pointer (some ⟨g83, 0, none⟩)), (10, .pointer (some ⟨g161, 0, none⟩)), (11, .int .i64 (((x.1 : Nat) : Int))), (12, .int .i64 (((x.2 : Nat) : Int))), (19, .bool (((decide ((((n : Nat) : Int) : Int) < (0 : Int))) || (decide ((96 : Int) < (((n : Nat) : Int) : Int)))))), (24, .slice a l.length c), (25, .int .i64 (((l.length : Nat) : Int))), (26, .int .i64 (((i : Nat) : Int))), (27, .bool ((decide ((((i : Nat) : Int) : Int) < (((l.length : Nat) : Int) : Int))))), (31, .bool ((lget l i).neg)), (42, .slice ((some ⟨g131, 0, none⟩)) 2 2), (43, .int .i64 2), (44, .int .i64 (((j : Nat) : Int))), (45, .bool ((decide ((((j : Nat) : Int) : Int) < (2 : Int))))), (56, .bool (((((tget [(lget l i).l, (lget l i).r] j).f : Int) == (0 : Int)) && (((((tget [(lget l i).l, (lget l i).r] j).args.length : Nat) : Int) : Int) == (0 : Int))))), (58, .func (.func 45) #[] #[.pointer (some ⟨gt, 0, none⟩)]), (63, .bool ((decide ((((n : Nat) : Int) : Int) ≤ (((x.1 : Nat) : Int) : Int)))))]) ⟨rfl, rfl, rfl, rfl, rfl, rfl, rfl, rfl, rfl, rfl, rfl, rfl, rfl, rfl, rfl, rfl, rfl, rfl, rfl, rfl, rfl, rfl, rfl, trivial⟩ ?_)
                    refine WE.next ?_
                    refine WC.cond rfl (fun h233 => ?_) (fun h233 => ?_)
                    · have h233 : (((n : Nat) : Int) : Int) ≤ (((x.1 : Nat) : Int) : Int) := by simpa using h233
                      refine WC.exit ?_
                      refine WE.thenExit ?_
                      refine WE.blockIs rfl ?_
                      have hs234 : Chg ((fun b => b = ob)) w222 w222 := (Chg.refl ((fun b => b = ob)) _)
                      exact fun _ _ => ⟨(KeepsFrom.refl _ _), (Kpt.ofChg hs234), ⟨(IRow.congr hMr (by rw [List.foldl_append]; show _ = put1 n 1 _ x; unfold put1; rw [if_neg (by omega)])), hz232, hb224, hB225, hB226, hB227, hB228, hB229, hB230, hB231, hzm⟩⟩
                    · have h233 : ¬ ((((n : Nat) : Int) : Int) ≤ (((x.1 : Nat) : Int) : Int)) := by simpa using h233
                      refine WC.skip ?_
                      refine WE.next ?_
                      refine WC.seq ?_
                      refine WC.region ?_
                      refine WL.val (.slice ((some ⟨ob, 0, none⟩)) ((2 + 4 * n)) ((2 + 4 * n))) rfl rfl rfl (fun za zC zh zk => ld_27 rfl (zh.ev rfl) ((hB226.cell 0).trans rfl) zk) ?_
                      refine WL.val (.int .i64 (((x.1 : Nat) : Int))) rfl rfl rfl (fun za zC zh zk => wp_move rfl (zh.ev rfl) zk) ?_
                      refine WL.val (.int .i64 ((((4 * x.1) : Nat) : Int))) rfl rfl rfl (fun za zC zh zk => mulb_3 rfl (zh.ev rfl) (zh.ev rfl) (wrap_eq (by omega) (by omega) (by omega)) zk) ?_
                      refine WL.val (.int .i64 ((((2 + 4 * x.1) : Nat) : Int))) rfl rfl rfl (fun za zC zh zk => addb_3 rfl (zh.ev rfl) (zh.ev rfl) (wrap_eq (by omega) (by omega) (by omega)) zk) ?_
                      refine WL.val (.int .i64 1) rfl rfl rfl (fun za zC zh zk => ld_3 rfl (zh.ev rfl) ((hB228.cell 0).trans rfl) zk) ?_
                      refine WL.val (.int .i64 ((((2 * 1) : Nat) : Int))) rfl rfl rfl (fun za zC zh zk => mulb_3 rfl (zh.ev rfl) (zh.ev rfl) (wrap_eq (by omega) (by omega) (by omega)) zk) ?_
                      refine WL.val (.int .i64 ((((2 + 4 * x.1 + 2 * 1) : Nat) : Int))) rfl rfl rfl (fun za zC zh zk => addb_3 rfl (zh.ev rfl) (zh.ev rfl) (wrap_eq (by omega) (by omega) (by omega)) zk) ?_
                      refine WL.val (.slice ((slA ((some ⟨ob, 0, none⟩)) ((2 + 4 * x.1 + 2 * 1)) 1 ((2 + 4 * n)))) (((2 + 4 * n) - (2 + 4 * x.1 + 2 * 1))) (((2 + 4 * n) - (2 + 4 * x.1 + 2 * 1)))) rfl rfl rfl (fun za zC zh zk => slo_27 (k := (2 + 4 * x.1 + 2 * 1)) rfl (zh.ev rfl) (zh.ev rfl) (by omega) (by omega) zk) ?_
                      refine WL.val (.slice ((slA ((some ⟨ob, 0, none⟩)) ((2 + 4 * x.1 + 2 * 1)) 1 ((2 + 4 * n)))) 2 (((2 + 4 * n) - (2 + 4 * x.1 + 2 * 1)))) rfl rfl rfl (fun za zC zh zk => shi_27 (k := 2) rfl (zh.ev rfl) (zh.ev rfl) (by omega) zk) ?_
                      refine WL.val (.slice ((slA ((some ⟨ob, 0, none⟩)) ((2 + 4 * x.1 + 2 * 1)) 1 ((2 + 4 * n)))) 2 (((2 + 4 * n) - (2 + 4 * x.1 + 2 * 1)))) rfl rfl rfl (fun za zC zh zk => wp_assign rfl (zh.ev rfl) zk) ?_
                      refine WL.nil (WE.sub (K' := [(0, .int .i64 (((n : Nat) : Int))), (1, .slice a l.length c), (2, .pointer (some ⟨g2, 0, none⟩)), (4, .slice none 0 0), (5, .pointer (some ⟨g20, 0, none⟩)), (7, .pointer (some ⟨g59, 0, none⟩)), (8, .pointer (some ⟨g83, 0, none⟩)), (10, .pointer (some ⟨g161, 0, none⟩)), (11, .int .i64 (((x.1 : Nat) : Int))), (12, .int .i64 (((x.2 : Nat) : Int))), (13, .slice ((slA ((some ⟨ob, 0, none⟩)) ((2 + 4 * x.1 + 2 * 1)) 1 ((2 + 4 * n)))) 2 (((2 + 4 * n) - (2 + 4 * x.1 + 2 * 1)))), (19, .bool (((decide ((((n : Nat) : Int) : Int) < (0 : Int))) || (decide ((96 : Int) < (((n : Nat) : Int) : Int)))))), (24, .slice a l.length c), (25, .int .i64 (((l.length : Nat) : Int))), (26, .int .i64 (((i : Nat) : Int))), (27, .bool ((decide ((((i : Nat) : Int) : Int) < (((l.length : Nat) : Int) : Int))))), (31, .bool ((lget l i).neg)), (42, .slice ((some ⟨g131, 0, none⟩)) 2 2), (43, .int .i64 2), (44, .int .i64 (((j : Nat) : Int))), (45, .bool ((decide ((((j : Nat) : Int) : Int) < (2 : Int))))), (56, .bool (((((tget [(lget l i).l, (lget l i).r] j).f : Int) == (0 : Int)) && (((((tget [(lget l i).l, (lget l i).r] j).args.length : Nat) : Int) : Int) == (0 : Int))))), (58, .func (.func 45) #[] #[.pointer (some ⟨gt, 0, none⟩)]), (63, .bool ((decide ((((n : Nat) : Int) : Int) ≤ (((x.1 : Nat) : Int) : Int)))))]) ⟨rfl, rfl, rfl, rfl, rfl, rfl, rfl, rfl, rfl, rfl, rfl, rfl, rfl, rfl, rfl, rfl, rfl, rfl, rfl, rfl, rfl, rfl, rfl, rfl, trivial⟩ ?_)
                      refine WE.next ?_
                      refine WC.seq ?_
                      refine WC.region ?_
                      refine WL.val (.slice ((slA ((some ⟨ob, 0, none⟩)) ((2 + 4 * x.1 + 2 * 1)) 1 ((2 + 4 * n)))) 2 (((2 + 4 * n) - (2 + 4 * x.1 + 2 * 1)))) rfl rfl rfl (fun za zC zh zk => wp_move rfl (zh.ev rfl) zk) ?_
                      refine WL.val (.pointer (some ⟨ob, 0 + ((2 + 4 * x.1 + 2 * 1)) * 1 + 0, none⟩)) rfl rfl rfl (fun za zC zh zk => ix_27 (k := 0) rfl (zh.ev rfl) (slA_some (by omega)) (zh.ev rfl) (by first | omega | (simp; omega)) zk) ?_
                      refine WL.val (.int .i64 (((pre.foldl (put1 n 1) (inG n 1 (lget l i).l (lget l i).r (gset (outG n l i) 1 (outG n l i 1 + 1)) j)) ((2 + 4 * x.1 + 2 * 1))))) rfl rfl rfl (fun za zC zh zk => ld_3 rfl (zh.ev rfl) (IRow.cellAt hMr (by omega) (by omega)) zk) ?_
                      refine WL.val (.int .i64 ((((pre.foldl (put1 n 1) (inG n 1 (lget l i).l (lget l i).r (gset (outG n l i) 1 (outG n l i 1 + 1)) j)) ((2 + 4 * x.1 + 2 * 1))) + 1))) rfl rfl rfl (fun za zC zh zk => addb_3 rfl (zh.ev rfl) (zh.ev rfl) (wrap_eq rfl (by have z := hpf0 (2 + 4 * x.1 + 2 * 1); omega) (by have z := hpf1 (2 + 4 * x.1 + 2 * 1) (by unfold evn; omega); omega)) zk) ?_
                      refine WL.val (.pointer (some ⟨ob, 0 + ((2 + 4 * x.1 + 2 * 1)) * 1 + 0, none⟩)) rfl rfl rfl (fun za zC zh zk => ix_27 (k := 0) rfl (zh.ev rfl) (slA_some (by omega)) (zh.ev rfl) (by first | omega | (simp; omega)) zk) ?_
                      refine WL.step (post := fun _ w' => Upd ob w222 w' ∧ IRow w' 3 ob (2 + 4 * n) (gset (pre.foldl (put1 n 1) (inG n 1 (lget l i).l (lget l i).r (gset (outG n l i) 1 (outG n l i 1 + 1)) j)) ((2 + 4 * x.1 + 2 * 1)) ((((pre.foldl (put1 n 1) (inG n 1 (lget l i).l (lget l i).r (gset (outG n l i) 1 (outG n l i 1 + 1)) j)) ((2 + 4 * x.1 + 2 * 1))) + 1)))) rfl rfl rfl (fun za zC zh zk => st_3 rfl (zh.ev rfl) (zh.ev rfl) (hMr).blk (IRow.size hMr (by omega)) (fun v => zk v _ ⟨Upd.at_ _ _ _ _, IRow.setAt hMr _ (by omega) (by omega)⟩)) ?_
                      rintro v238 w235 ⟨hu236, hM237⟩
                      have hb239 := upd_below hb224 hu236 (by omega)
                      have hB240 := upd_blk hB225 hu236 (by omega)
                      have hB241 := upd_blk hB226 hu236 (by omega)
                      have hB242 := upd_blk hB227 hu236 (by omega)
                      have hB243 := upd_blk hB228 hu236 (by omega)
                      have hB244 := upd_blk hB229 hu236 (by omega)
                      have hB245 := upd_blk hB230 hu236 (by omega)
                      have hB246 := upd_blk hB231 hu236 (by omega)
                      have ho247 := hzm.upd hu236 (⟨_, (hMr).blk, rfl⟩)
                      refine WL.nil (WE.sub (K' := [(0, .int .i64 (((n : Nat) : Int))), (1, .slice a l.length c), (2, .pointer (some ⟨g2, 0, none⟩)), (4, .slice none 0 0), (5, .pointer (some ⟨g20, 0, none⟩)), (7, .pointer (some ⟨g59, 0, none⟩)), (8, .pointer (some ⟨g83, 0, none⟩)), (10, .pointer (some ⟨g161, 0, none⟩)), (11, .int .i64 (((x.1 : Nat) : Int))), (12, .int .i64 (((x.2 : Nat) : Int))), (13, .slice ((slA ((some ⟨ob, 0, none⟩)) ((2 + 4 * x.1 + 2 * 1)) 1 ((2 + 4 * n)))) 2 (((2 + 4 * n) - (2 + 4 * x.1 + 2 * 1)))), (19, .bool (((decide ((((n : Nat) : Int) : Int) < (0 : Int))) || (decide ((96 : Int) < (((n : Nat) : Int) : Int)))))), (24, .slice a l.length c), (25, .int .i64 (((l.length : Nat) : Int))), (26, .int .i64 (((i : Nat) : Int))), (27, .bool ((decide ((((i : Nat) : Int) : Int) < (((l.length : Nat) : Int) : Int))))), (31, .bool ((lget l i).neg)), (42, .slice ((some ⟨g131, 0, none⟩)) 2 2), (43, .int .i64 2), (44, .int .i64 (((j : Nat) : Int))), (45, .bool ((decide ((((j : Nat) : Int) : Int) < (2 : Int))))), (56, .bool (((((tget [(lget l i).l, (lget l i).r] j).f : Int) == (0 : Int)) && (((((tget [(lget l i).l, (lget l i).r] j).args.length : Nat) : Int) : Int) == (0 : Int))))), (58, .func (.func 45) #[] #[.pointer (some ⟨gt, 0, none⟩)]), (63, .bool ((decide ((((n : Nat) : Int) : Int) ≤ (((x.1 : Nat) : Int) : Int)))))]) ⟨rfl, rfl, rfl, rfl, rfl, rfl, rfl, rfl, rfl, rfl, rfl, rfl, rfl, rfl, rfl, rfl, rfl, rfl, rfl, rfl, rfl, rfl, rfl, rfl, trivial⟩ ?_)
                      refine WE.next ?_
                      refine WC.region ?_
                      refine WL.val (.slice ((slA ((some ⟨ob, 0, none⟩)) ((2 + 4 * x.1 + 2 * 1)) 1 ((2 + 4 * n)))) 2 (((2 + 4 * n) - (2 + 4 * x.1 + 2 * 1)))) rfl rfl rfl (fun za zC zh zk => wp_move rfl (zh.ev rfl) zk) ?_
                      refine WL.val (.slice ((slA ((some ⟨ob, 0, none⟩)) ((2 + 4 * x.1 + 2 * 1)) 1 ((2 + 4 * n)))) 2 (((2 + 4 * n) - (2 + 4 * x.1 + 2 * 1)))) rfl rfl rfl (fun za zC zh zk => wp_move rfl (zh.ev rfl) zk) ?_
                      refine WL.val (.pointer (some ⟨ob, 0 + ((2 + 4 * x.1 + 2 * 1)) * 1 + 1, none⟩)) rfl rfl rfl (fun za zC zh zk => ix_27 (k := 1) rfl (zh.ev rfl) (slA_some (by omega)) (zh.ev rfl) (by first | omega | (simp; omega)) zk) ?_
                      refine WL.val (.int .i64 (((gset (pre.foldl (put1 n 1) (inG n 1 (lget l i).l (lget l i).r (gset (outG n l i) 1 (outG n l i 1 + 1)) j)) ((2 + 4 * x.1 + 2 * 1)) ((((pre.foldl (put1 n 1) (inG n 1 (lget l i).l (lget l i).r (gset (outG n l i) 1 (outG n l i 1 + 1)) j)) ((2 + 4 * x.1 + 2 * 1))) + 1))) (((2 + 4 * x.1 + 2 * 1) + 1))))) rfl rfl rfl (fun za zC zh zk => ld_3 rfl (zh.ev rfl) (IRow.cellAt hM237 (by omega) (by omega)) zk) ?_
                      refine WL.val (.int .i64 (((x.2 : Nat) : Int))) rfl rfl rfl (fun za zC zh zk => wp_move rfl (zh.ev rfl) zk) ?_
                      refine WL.val (.int .i64 ((max (((gset (pre.foldl (put1 n 1) (inG n 1 (lget l i).l (lget l i).r (gset (outG n l i) 1 (outG n l i 1 + 1)) j)) ((2 + 4 * x.1 + 2 * 1)) ((((pre.foldl (put1 n 1) (inG n 1 (lget l i).l (lget l i).r (gset (outG n l i) 1 (outG n l i 1 + 1)) j)) ((2 + 4 * x.1 + 2 * 1))) + 1))) (((2 + 4 * x.1 + 2 * 1) + 1)))) (((x.2 : Nat) : Int))))) rfl rfl rfl (fun za zC zh zk => wp_max3 rfl (zh.ev rfl) (zh.ev rfl) rfl zk) ?_
                      refine WL.val (.pointer (some ⟨ob, 0 + ((2 + 4 * x.1 + 2 * 1)) * 1 + 1, none⟩)) rfl rfl rfl (fun za zC zh zk => ix_27 (k := 1) rfl (zh.ev rfl) (slA_some (by omega)) (zh.ev rfl) (by first | omega | (simp; omega)) zk) ?_
                      refine WL.step (post := fun _ w' => Upd ob w235 w' ∧ IRow w' 3 ob (2 + 4 * n) (gset (gset (pre.foldl (put1 n 1) (inG n 1 (lget l i).l (lget l i).r (gset (outG n l i) 1 (outG n l i 1 + 1)) j)) ((2 + 4 * x.1 + 2 * 1)) ((((pre.foldl (put1 n 1) (inG n 1 (lget l i).l (lget l i).r (gset (outG n l i) 1 (outG n l i 1 + 1)) j)) ((2 + 4 * x.1 + 2 * 1))) + 1))) (((2 + 4 * x.1 + 2 * 1) + 1)) ((max (((gset (pre.foldl (put1 n 1) (inG n 1 (lget l i).l (lget l i).r (gset (outG n l i) 1 (outG n l i 1 + 1)) j)) ((2 + 4 * x.1 + 2 * 1)) ((((pre.foldl (put1 n 1) (inG n 1 (lget l i).l (lget l i).r (gset (outG n l i) 1 (outG n l i 1 + 1)) j)) ((2 + 4 * x.1 + 2 * 1))) + 1))) (((2 + 4 * x.1 + 2 * 1) + 1)))) (((x.2 : Nat) : Int)))))) rfl rfl rfl (fun za zC zh zk => st_3 rfl (zh.ev rfl) (zh.ev rfl) (hM237).blk (IRow.size hM237 (by omega)) (fun v => zk v _ ⟨Upd.at_ _ _ _ _, IRow.setAt hM237 _ (by omega) (by omega)⟩)) ?_
                      rintro v251 w248 ⟨hu249, hM250⟩
                      have hb252 := upd_below hb239 hu249 (by omega)
                      have hB253 := upd_blk hB240 hu249 (by omega)
                      have hB254 := upd_blk hB241 hu249 (by omega)
                      have hB255 := upd_blk hB242 hu249 (by omega)
                      have hB256 := upd_blk hB243 hu249 (by omega)
                      have hB257 := upd_blk hB244 hu249 (by omega)
                      have hB258 := upd_blk hB245 hu249 (by omega)
                      have hB259 := upd_blk hB246 hu249 (by omega)
                      have ho260 := ho247.upd hu249 (⟨_, (hM237).blk, rfl⟩)
                      refine WL.nil (WE.sub (K' := [(0, .int .i64 (((n : Nat) : Int))), (1, .slice a l.length c), (2, .pointer (some ⟨g2, 0, none⟩)), (4, .slice none 0 0), (5, .pointer (some ⟨g20, 0, none⟩)), (7, .pointer (some ⟨g59, 0, none⟩)), (8, .pointer (some ⟨g83, 0, none⟩)), (10, .pointer (some ⟨g161, 0, none⟩)), (11, .int .i64 (((x.1 : Nat) : Int))), (12, .int .i64 (((x.2 : Nat) : Int))), (13, .slice ((slA ((some ⟨ob, 0, none⟩)) ((2 + 4 * x.1 + 2 * 1)) 1 ((2 + 4 * n)))) 2 (((2 + 4 * n) - (2 + 4 * x.1 + 2 * 1)))), (19, .bool (((decide ((((n : Nat) : Int) : Int) < (0 : Int))) || (decide ((96 : Int) < (((n : Nat) : Int) : Int)))))), (24, .slice a l.length c), (25, .int .i64 (((l.length : Nat) : Int))), (26, .int .i64 (((i : Nat) : Int))), (27, .bool ((decide ((((i : Nat) : Int) : Int) < (((l.length : Nat) : Int) : Int))))), (31, .bool ((lget l i).neg)), (42, .slice ((some ⟨g131, 0, none⟩)) 2 2), (43, .int .i64 2), (44, .int .i64 (((j : Nat) : Int))), (45, .bool ((decide ((((j : Nat) : Int) : Int) < (2 : Int))))), (56, .bool (((((tget [(lget l i).l, (lget l i).r] j).f : Int) == (0 : Int)) && (((((tget [(lget l i).l, (lget l i).r] j).args.length : Nat) : Int) : Int) == (0 : Int))))), (58, .func (.func 45) #[] #[.pointer (some ⟨gt, 0, none⟩)]), (63, .bool ((decide ((((n : Nat) : Int) : Int) ≤ (((x.1 : Nat) : Int) : Int)))))]) ⟨rfl, rfl, rfl, rfl, rfl, rfl, rfl, rfl, rfl, rfl, rfl, rfl, rfl, rfl, rfl, rfl, rfl, rfl, rfl, rfl, rfl, rfl, rfl, rfl, trivial⟩ ?_)
                      refine WE.blockNormal ?_
                      have hs261 : Chg ((fun b => b = ob)) w222 w248 := (Chg.trans2 (Chg.trans2 (Chg.refl ((fun b => b = ob)) _) (Chg.ofUpd (S := fun k => k = ob) hu236 rfl) (fun i h1 h2 => by first | exact h2 | exact .inl ⟨h2, h1⟩ | exact .inl h2 | exact .inr h2 | exact .inr (.inl h2) | exact .inr (.inr h2) | ((try dsimp only at *); omega))) (Chg.ofUpd (S := fun k => k = ob) hu249 rfl) (fun i h1 h2 => by first | exact h2 | exact .inl ⟨h2, h1⟩ | exact .inl h2 | exact .inr h2 | exact .inr (.inl h2) | exact .inr (.inr h2) | ((try dsimp only at *); omega)))
                      exact fun _ _ => ⟨((keepsFrom_upd hu236 (hMr).blk).trans (keepsFrom_upd hu249 (hM237).blk)), (Kpt.ofChg hs261), ⟨(IRow.congr hM250 (by rw [List.foldl_append]; show _ = put1 n 1 _ x; unfold put1; rw [if_pos (by omega)]; (try (rw [gset_ne (by omega)])))), (Nat.le_trans (Nat.le_trans hz232 (Nat.le_of_eq hu236.size.symm)) (Nat.le_of_eq hu249.size.symm)), hb252, hB253, hB254, hB255, hB256, hB257, hB258, hB259, ho260⟩⟩
                  · rintro D262 xs263 w264 hD265 hS266 ⟨hMr, hz276, hb268, hB269, hB270, hB271, hB272, hB273, hB274, hB275, hzm⟩ hw267
                    have hzm277 := Marks.cons hzm hw267 (by have z := hb208.size; omega) (fun D9 q => by have z := Marks.lt ho210 q; omega)
                    have hend : (xs263.foldl (put1 n 1) (inG n 1 (lget l i).l (lget l i).r (gset (outG n l i) 1 (outG n l i 1 + 1)) j)) = (inG n 1 (lget l i).l (lget l i).r (gset (outG n l i) 1 (outG n l i 1 + 1)) (j + 1)) := by rw [hS266, inG_succ hj2]; unfold sideP; rw [if_neg htt]
                    refine WE.blockNormal ?_
                    refine WE.blockNormal ?_
                    refine WE.next ?_
                    refine WC.region ?_
                    refine WL.val (.int .i64 ((((j + 1) : Nat) : Int))) rfl rfl rfl (fun za zC zh zk => addb_3 rfl (zh.ev rfl) (zh.ev rfl) (wrap_eq (by omega) (by omega) (by omega)) zk) ?_
                    refine WL.val (.int .i64 ((((j + 1) : Nat) : Int))) rfl rfl rfl (fun za zC zh zk => wp_move rfl (zh.ev rfl) zk) ?_
                    refine WL.nil (WE.sub (K' := [(0, .int .i64 (((n : Nat) : Int))), (1, .slice a l.length c), (2, .pointer (some ⟨g2, 0, none⟩)), (4, .slice none 0 0), (5, .pointer (some ⟨g20, 0, none⟩)), (7, .pointer (some ⟨g59, 0, none⟩)), (8, .pointer (some ⟨g83, 0, none⟩)), (10, .pointer (some ⟨g161, 0, none⟩)), (19, .bool (((decide ((((n : Nat) : Int) : Int) < (0 : Int))) || (decide ((96 : Int) < (((n : Nat) : Int) : Int)))))), (24, .slice a l.length c), (25, .int .i64 (((l.length : Nat) : Int))), (26, .int .i64 (((i : Nat) : Int))), (27, .bool ((decide ((((i : Nat) : Int) : Int) < (((l.length : Nat) : Int) : Int))))), (31, .bool ((lget l i).neg)), (42, .slice ((some ⟨g131, 0, none⟩)) 2 2), (43, .int .i64 2), (44, .int .i64 ((((j + 1) : Nat) : Int))), (45, .bool ((decide ((((j : Nat) : Int) : Int) < (2 : Int))))), (56, .bool (((((tget [(lget l i).l, (lget l i).r] j).f : Int) == (0 : Int)) && (((((tget [(lget l i).l, (lget l i).r] j).args.length : Nat) : Int) : Int) == (0 : Int))))), (58, .func (.func 45) #[] #[.pointer (some ⟨gt, 0, none⟩)])]) ⟨rfl, rfl, rfl, rfl, rfl, rfl, rfl, rfl, rfl, rfl, rfl, rfl, rfl, rfl, rfl, rfl, rfl, rfl, rfl, rfl, trivial⟩ ?_)
                    refine WE.roundD (j + 1) (D262 :: Dl144) rfl ⟨rfl, rfl, rfl, rfl, rfl, rfl, rfl, rfl, rfl, rfl, rfl, rfl, rfl, rfl, rfl, rfl, trivial⟩ ?_ ?_
                    · exact ⟨by omega, (by rw [inG_succ hj2]; exact sideP_nonneg hj0), (fun k hk => by rw [inG_succ hj2]; have z := sideP_ev (n := n) (way := 1) hk (tget [(lget l i).l, (lget l i).r] j) (inG n 1 (lget l i).l (lget l i).r (gset (outG n l i) 1 (outG n l i 1 + 1)) j); have z2 := hj1 k hk; omega), hb268, hB269, hB270, hB271, hB272, hB273, hzm277, (IRow.congr hMr hend)⟩
                    · omega
                  · rintro D278 zc279 pre280 w281 hD282 hS283 hI284 hw285
                    exact hI284.elim
            · have h159 : ¬ ((((j : Nat) : Int) : Int) < (2 : Int)) := by simpa using h159
              have hj2e : j = 2 := by omega
              refine WC.exit ?_
              refine WE.thenExit ?_
              refine WE.thenExit ?_
              refine WE.blockIs rfl ?_
              refine WE.blockNormal ?_
              refine WE.next ?_
              refine WC.region ?_
              refine WL.val (.int .i64 ((((i + 1) : Nat) : Int))) rfl rfl rfl (fun za zC zh zk => addb_3 rfl (zh.ev rfl) (zh.ev rfl) (wrap_eq (by omega) (by omega) (by omega)) zk) ?_
              refine WL.val (.int .i64 ((((i + 1) : Nat) : Int))) rfl rfl rfl (fun za zC zh zk => wp_move rfl (zh.ev rfl) zk) ?_
              refine WL.nil (WE.sub (K' := [(0, .int .i64 (((n : Nat) : Int))), (1, .slice a l.length c), (2, .pointer (some ⟨g2, 0, none⟩)), (4, .slice none 0 0), (5, .pointer (some ⟨g20, 0, none⟩)), (7, .pointer (some ⟨g59, 0, none⟩)), (8, .pointer (some ⟨g83, 0, none⟩)), (19, .bool (((decide ((((n : Nat) : Int) : Int) < (0 : Int))) || (decide ((96 : Int) < (((n : Nat) : Int) : Int)))))), (24, .slice a l.length c), (25, .int .i64 (((l.length : Nat) : Int))), (26, .int .i64 ((((i + 1) : Nat) : Int))), (27, .bool ((decide ((((i : Nat) : Int) : Int) < (((l.length : Nat) : Int) : Int))))), (31, .bool ((lget l i).neg)), (42, .slice ((some ⟨g131, 0, none⟩)) 2 2), (43, .int .i64 2), (44, .int .i64 (((j : Nat) : Int))), (45, .bool ((decide ((((j : Nat) : Int) : Int) < (2 : Int)))))]) ⟨rfl, rfl, rfl, rfl, rfl, rfl, rfl, rfl, rfl, rfl, rfl, rfl, rfl, rfl, rfl, rfl, rfl, trivial⟩ ?_)
              refine WE.roundD (i + 1) Dl144 rfl ⟨rfl, rfl, rfl, rfl, rfl, rfl, rfl, rfl, rfl, trivial⟩ ?_ ?_
              · exact ⟨by omega, (fun k hk => by rw [outG_succ (by omega), lit_out hway, ← hj2e]; have z := hj1 k hk; omega), hb151, hB152, hB153, ho157, (IRow.congr ho158 (by rw [outG_succ (by omega), lit_out hway, ← hj2e]))⟩
              · omega
        · skip
          refine WC.skip ?_
          refine WE.next ?_
          refine WC.seq ?_
          refine WC.region ?_
          refine WL.val (.slice ((some ⟨ob, 0, none⟩)) ((2 + 4 * n)) ((2 + 4 * n))) rfl rfl rfl (fun za zC zh zk => ld_27 rfl (zh.ev rfl) ((hB102.cell 0).trans rfl) zk) ?_
          refine WL.val (.int .i64 0) rfl rfl rfl (fun za zC zh zk => ld_3 rfl (zh.ev rfl) ((hB95.cell 0).trans rfl) zk) ?_
          refine WL.val (.pointer (some ⟨ob, 0, none⟩)) rfl rfl rfl (fun za zC zh zk => ix_27 (k := 0) rfl (zh.ev rfl) rfl (zh.ev rfl) (by first | omega | (simp; omega)) zk) ?_
          refine WL.val (.int .i64 (((outG n l i) 0))) rfl rfl rfl (fun za zC zh zk => ld_3 rfl (zh.ev rfl) (IRow.cellAt ho108 (by omega) (by omega)) zk) ?_
          refine WL.val (.int .i64 ((((outG n l i) 0) + 1))) rfl rfl rfl (fun za zC zh zk => addb_3 rfl (zh.ev rfl) (zh.ev rfl) (wrap_eq rfl (by have z := hg0 0; omega) (by have z := hgb 0 (by unfold evn; omega); omega)) zk) ?_
          refine WL.val (.pointer (some ⟨ob, 0, none⟩)) rfl rfl rfl (fun za zC zh zk => ix_27 (k := 0) rfl (zh.ev rfl) rfl (zh.ev rfl) (by first | omega | (simp; omega)) zk) ?_
          refine WL.step (post := fun _ w' => Upd ob w93 w' ∧ IRow w' 3 ob (2 + 4 * n) (gset (outG n l i) 0 ((((outG n l i) 0) + 1)))) rfl rfl rfl (fun za zC zh zk => st_3 rfl (zh.ev rfl) (zh.ev rfl) (ho108).blk (IRow.size ho108 (by omega)) (fun v => zk v _ ⟨Upd.at_ _ _ _ _, IRow.setAt ho108 _ (by omega) (by omega)⟩)) ?_
          rintro v289 w286 ⟨hu287, hM288⟩
          have hb290 := upd_below hb98 hu287 (by omega)
          have hB291 := upd_blk hB100 hu287 (by omega)
          have hB292 := upd_blk hB102 hu287 (by omega)
          have hB293 := upd_blk hB104 hu287 (by omega)
          have hB294 := upd_blk hB95 hu287 (by omega)
          have ho295 := ho106.upd hu287 (⟨_, (ho108).blk, rfl⟩)
          refine WL.nil (WE.sub (K' := [(0, .int .i64 (((n : Nat) : Int))), (1, .slice a l.length c), (2, .pointer (some ⟨g2, 0, none⟩)), (4, .slice none 0 0), (5, .pointer (some ⟨g20, 0, none⟩)), (7, .pointer (some ⟨g59, 0, none⟩)), (8, .pointer (some ⟨g83, 0, none⟩)), (19, .bool (((decide ((((n : Nat) : Int) : Int) < (0 : Int))) || (decide ((96 : Int) < (((n : Nat) : Int) : Int)))))), (24, .slice a l.length c), (25, .int .i64 (((l.length : Nat) : Int))), (26, .int .i64 (((i : Nat) : Int))), (27, .bool ((decide ((((i : Nat) : Int) : Int) < (((l.length : Nat) : Int) : Int))))), (31, .bool ((lget l i).neg))]) ⟨rfl, rfl, rfl, rfl, rfl, rfl, rfl, rfl, rfl, rfl, rfl, rfl, rfl, trivial⟩ ?_)
          refine WE.next ?_
          refine WC.seq ?_
          refine WC.region ?_
          refine WL.val (.pointer (some ⟨g59, 1, none⟩)) rfl rfl rfl (fun za zC zh zk => fld_34_1 rfl (zh.ev rfl) zk) ?_
          refine WL.val (.agg #[.int .i64 ((lget l i).l.f), .slice ((A52 i)) ((lget l i).l.args.length) ((C53 i))]) rfl rfl rfl (fun za zC zh zk => ld_32 rfl (zh.ev rfl) ((hB293.cell 1).trans rfl) ((hB293.cell 2).trans rfl) zk) ?_
          refine WL.val (.pointer (some ⟨g59, 3, none⟩)) rfl rfl rfl (fun za zC zh zk => fld_34_2 rfl (zh.ev rfl) zk) ?_
          refine WL.val (.agg #[.int .i64 ((lget l i).r.f), .slice ((A54 i)) ((lget l i).r.args.length) ((C55 i))]) rfl rfl rfl (fun za zC zh zk => ld_32 rfl (zh.ev rfl) ((hB293.cell 3).trans rfl) ((hB293.cell 4).trans rfl) zk) ?_
          refine WL.step (post := NewRow w286 32 #[.int .i64 ((lget l i).l.f), .slice ((A52 i)) ((lget l i).l.args.length) ((C53 i)), .int .i64 ((lget l i).r.f), .slice ((A54 i)) ((lget l i).r.args.length) ((C55 i))] 2) rfl rfl rfl (fun za zC zh zk => row_30_2 rfl (zh.ev rfl) (zh.ev rfl) (zk _ _ (newRow _ _ _ _))) ?_
          rintro _ w296 ⟨g297, rfl, hg298, hB299, hb300, hz301⟩
          have hl302 : g2 < g297 := by have z1 := hB291.lt; omega
          have hl303 : g20 < g297 := by have z1 := hB292.lt; omega
          have hl304 : g59 < g297 := by have z1 := hB293.lt; omega
          have hl305 : g83 < g297 := by have z1 := hB294.lt; omega
          have hl306 : ob < g297 := by have z1 := hM288.lt; omega
          have hl307 : w.heap.size ≤ g297 := by have z2 := (hb290).size; omega
          refine WL.val (.int .i64 2) rfl rfl rfl (fun za zC zh zk => len_30 rfl (zh.ev rfl) zk) ?_
          refine WL.val (.int .i64 0) rfl rfl rfl (fun za zC zh zk => wp_move rfl (zh.ev rfl) zk) ?_
          refine WL.nil (WE.sub (K' := [(0, .int .i64 (((n : Nat) : Int))), (1, .slice a l.length c), (2, .pointer (some ⟨g2, 0, none⟩)), (4, .slice none 0 0), (5, .pointer (some ⟨g20, 0, none⟩)), (7, .pointer (some ⟨g59, 0, none⟩)), (8, .pointer (some ⟨g83, 0, none⟩)), (19, .bool (((decide ((((n : Nat) : Int) : Int) < (0 : Int))) || (decide ((96 : Int) < (((n : Nat) : Int) : Int)))))), (24, .slice a l.length c), (25, .int .i64 (((l.length : Nat) : Int))), (26, .int .i64 (((i : Nat) : Int))), (27, .bool ((decide ((((i : Nat) : Int) : Int) < (((l.length : Nat) : Int) : Int))))), (31, .bool ((lget l i).neg)), (42, .slice ((some ⟨g297, 0, none⟩)) 2 2), (43, .int .i64 2), (44, .int .i64 0)]) ⟨rfl, rfl, rfl, rfl, rfl, rfl, rfl, rfl, rfl, rfl, rfl, rfl, rfl, rfl, rfl, rfl, trivial⟩ ?_)
          refine WE.next ?_
          refine WC.block ?_
          have hway : 0 = (lget l i).way := li_way (by simpa using h109) rfl
          have hwl : 0 ≤ 1 := by decide
          have hg1 : ∀ k, 0 ≤ (gset (outG n l i) 0 (outG n l i 0 + 1)) k := inc_nonneg hg0
          have hg1b : ∀ k, evn k → (gset (outG n l i) 0 (outG n l i 0 + 1)) k ≤ i * 17179869184 + 1 := fun k hk => gset_ev hgb (by unfold evn; omega) hk
          have hb308 : Below w.heap.size w w296 := (bstep hb290 hb300)
          refine WC.loopD (X := Nat) (fun j => 2 - j) (fun j => [(0, .int .i64 (((n : Nat) : Int))), (1, .slice a l.length c), (2, .pointer (some ⟨g2, 0, none⟩)), (4, .slice none 0 0), (5, .pointer (some ⟨g20, 0, none⟩)), (7, .pointer (some ⟨g59, 0, none⟩)), (8, .pointer (some ⟨g83, 0, none⟩)), (19, .bool (((decide ((((n : Nat) : Int) : Int) < (0 : Int))) || (decide ((96 : Int) < (((n : Nat) : Int) : Int)))))), (24, .slice a l.length c), (25, .int .i64 (((l.length : Nat) : Int))), (26, .int .i64 (((i : Nat) : Int))), (27, .bool ((decide ((((i : Nat) : Int) : Int) < (((l.length : Nat) : Int) : Int))))), (31, .bool ((lget l i).neg)), (42, .slice ((some ⟨g297, 0, none⟩)) 2 2), (43, .int .i64 2), (44, .int .i64 (((j : Nat) : Int)))]) (fun j Dl310 w309 => j ≤ 2 ∧ (∀ k, 0 ≤ (inG n 0 (lget l i).l (lget l i).r (gset (outG n l i) 0 (outG n l i 0 + 1)) j) k) ∧ (∀ k, evn k → (inG n 0 (lget l i).l (lget l i).r (gset (outG n l i) 0 (outG n l i 0 + 1)) j) k ≤ i * 17179869184 + 1 + j * 4294967296) ∧ Below w.heap.size w w309 ∧ Blk w309 g2 3 #[.int .i64 (((n : Nat) : Int))] ∧ Blk w309 g20 27 #[.slice ((some ⟨ob, 0, none⟩)) ((2 + 4 * n)) ((2 + 4 * n))] ∧ Blk w309 g59 34 #[.bool ((lget l i).neg), .int .i64 ((lget l i).l.f), .slice ((A52 i)) ((lget l i).l.args.length) ((C53 i)), .int .i64 ((lget l i).r.f), .slice ((A54 i)) ((lget l i).r.args.length) ((C55 i))] ∧ Blk w309 g83 3 #[.int .i64 0] ∧ Blk w309 g297 32 #[.int .i64 ((lget l i).l.f), .slice ((A52 i)) ((lget l i).l.args.length) ((C53 i)), .int .i64 ((lget l i).r.f), .slice ((A54 i)) ((lget l i).r.args.length) ((C55 i))] ∧ Marks w.heap.size (w309) Dl310 ∧ IRow (w309) 3 ob (2 + 4 * n) (inG n 0 (lget l i).l (lget l i).r (gset (outG n l i) 0 (outG n l i 0 + 1)) j)) 0 Dl43 rfl ⟨rfl, rfl, rfl, rfl, rfl, rfl, rfl, rfl, rfl, rfl, rfl, rfl, rfl, rfl, rfl, rfl, trivial⟩ ?_ ?_
          · have hB311 := hB291.below hb300
            have hB312 := hB292.below hb300
            have hB313 := hB293.below hb300
            have hB314 := hB294.below hb300
            have ho315 := ho295.below hb300
            have ho316 := hM288.below hb300
            exact ⟨Nat.zero_le _, hg1, (fun k hk => by have z := hg1b k hk; rw [inG_zero]; omega), hb308, hB311, hB312, hB313, hB314, hB299, ho315, ho316⟩
          · rintro j Dl310 w309 ⟨hj, hj0, hj1, hb317, hB318, hB319, hB320, hB321, hB322, ho323, ho324⟩
            skip
            refine WC.seq ?_
            refine WC.region ?_
            refine WL.val (.bool ((decide ((((j : Nat) : Int) : Int) < (2 : Int))))) rfl rfl rfl (fun za zC zh zk => lss_3 rfl (zh.ev rfl) (zh.ev rfl) zk) ?_
            refine WL.nil (WE.sub (K' := [(0, .int .i64 (((n : Nat) : Int))), (1, .slice a l.length c), (2, .pointer (some ⟨g2, 0, none⟩)), (4, .slice none 0 0), (5, .pointer (some ⟨g20, 0, none⟩)), (7, .pointer (some ⟨g59, 0, none⟩)), (8, .pointer (some ⟨g83, 0, none⟩)), (19, .bool (((decide ((((n : Nat) : Int) : Int) < (0 : Int))) || (decide ((96 : Int) < (((n : Nat) : Int) : Int)))))), (24, .slice a l.length c), (25, .int .i64 (((l.length : Nat) : Int))), (26, .int .i64 (((i : Nat) : Int))), (27, .bool ((decide ((((i : Nat) : Int) : Int) < (((l.length : Nat) : Int) : Int))))), (31, .bool ((lget l i).neg)), (42, .slice ((some ⟨g297, 0, none⟩)) 2 2), (43, .int .i64 2), (44, .int .i64 (((j : Nat) : Int))), (45, .bool ((decide ((((j : Nat) : Int) : Int) < (2 : Int)))))]) ⟨rfl, rfl, rfl, rfl, rfl, rfl, rfl, rfl, rfl, rfl, rfl, rfl, rfl, rfl, rfl, rfl, rfl, trivial⟩ ?_)
            refine WE.next ?_
            refine WC.seq ?_
            refine WC.cond rfl (fun h325 => ?_) (fun h325 => ?_)
            · have h325 : (((j : Nat) : Int) : Int) < (2 : Int) := by simpa using h325
              have hj2 : j < 2 := by omega
              have hil : i < l.length := by omega
              have htz : (tget [(lget l i).l, (lget l i).r] j).size ≤ 4294967296 := two_size (hpl hil) (hpr hil) hj2
              refine WC.skip ?_
              refine WE.next ?_
              refine WC.seq ?_
              refine WC.block ?_
              refine WC.seq ?_
              refine WC.region ?_
              refine WL.val (.pointer (some ⟨g297, 0 + j * 2, none⟩)) rfl rfl rfl (fun za zC zh zk => ix_30 (k := j) rfl (zh.ev rfl) rfl (zh.ev rfl) (by first | omega | (simp; omega)) zk) ?_
              refine WL.val (.agg #[.int .i64 ((tget [(lget l i).l, (lget l i).r] j).f), .slice ((tw j ((A52 i)) ((A54 i)))) ((tget [(lget l i).l, (lget l i).r] j).args.length) ((tw j ((C53 i)) ((C55 i))))]) rfl rfl rfl (fun za zC zh zk => ld_32 rfl (zh.ev rfl) (two_cells (L := (lget l i).l) (R := (lget l i).r) hB322 (by omega)).1 (two_cells (L := (lget l i).l) (R := (lget l i).r) hB322 (by omega)).2 zk) ?_
              refine WL.step (post := NewBlk w309 32 #[.int .i64 0, .slice none 0 0]) rfl rfl rfl (fun za zC zh zk => alloc_32 rfl (zk _ _ (newBlk _ _ _))) ?_
              rintro _ w326 ⟨g327, rfl, hg328, hB329, hb330, hz331⟩
              have hl332 : g2 < g327 := by have z1 := hB318.lt; omega
              have hl333 : g20 < g327 := by have z1 := hB319.lt; omega
              have hl334 : g59 < g327 := by have z1 := hB320.lt; omega
              have hl335 : g83 < g327 := by have z1 := hB321.lt; omega
              have hl336 : g297 < g327 := by have z1 := hB322.lt; omega
              have hl337 : ob < g327 := by have z1 := ho324.lt; omega
              have hl338 : w.heap.size ≤ g327 := by have z2 := (hb317).size; omega
              refine WL.step (post := fun _ w' => Upd g327 w326 w' ∧ Blk w' g327 32 #[.int .i64 ((tget [(lget l i).l, (lget l i).r] j).f), .slice ((tw j ((A52 i)) ((A54 i)))) ((tget [(lget l i).l, (lget l i).r] j).args.length) ((tw j ((C53 i)) ((C55 i))))]) rfl rfl rfl (fun za zC zh zk => st_32 rfl (zh.ev rfl) (zh.ev rfl) rfl rfl hB329 (by first | decide | simp) (fun v => zk v _ ⟨(Upd.at_ _ _ _ _).trans (Upd.at_ _ _ _ _), (hB329.set_ 0 _).set_ 1 _⟩)) ?_
              rintro v342 w339 ⟨hu340, hB341⟩
              have hb343 : Below w.heap.size w w326 := (bstep hb317 hb330)
              have hb344 := upd_below hb343 hu340 (by omega)
              have hB345 := hB318.below hb330
              have hB346 := upd_blk hB345 hu340 (by omega)
              have hB347 := hB319.below hb330
              have hB348 := upd_blk hB347 hu340 (by omega)
              have hB349 := hB320.below hb330
              have hB350 := upd_blk hB349 hu340 (by omega)
              have hB351 := hB321.below hb330
              have hB352 := upd_blk hB351 hu340 (by omega)
              have hB353 := hB322.below hb330
              have hB354 := upd_blk hB353 hu340 (by omega)
              have ho355 := ho323.below hb330
              have ho356 := ho355.upd hu340 (⟨_, hB329, rfl⟩)
              have ho357 := ho324.below hb330
              have ho358 := ho357.upd hu340 (by omega)
              refine WL.nil (WE.sub (K' := [(0, .int .i64 (((n : Nat) : Int))), (1, .slice a l.length c), (2, .pointer (some ⟨g2, 0, none⟩)), (4, .slice none 0 0), (5, .pointer (some ⟨g20, 0, none⟩)), (7, .pointer (some ⟨g59, 0, none⟩)), (8, .pointer (some ⟨g83, 0, none⟩)), (10, .pointer (some ⟨g327, 0, none⟩)), (19, .bool (((decide ((((n : Nat) : Int) : Int) < (0 : Int))) || (decide ((96 : Int) < (((n : Nat) : Int) : Int)))))), (24, .slice a l.length c), (25, .int .i64 (((l.length : Nat) : Int))), (26, .int .i64 (((i : Nat) : Int))), (27, .bool ((decide ((((i : Nat) : Int) : Int) < (((l.length : Nat) : Int) : Int))))), (31, .bool ((lget l i).neg)), (42, .slice ((some ⟨g297, 0, none⟩)) 2 2), (43, .int .i64 2), (44, .int .i64 (((j : Nat) : Int))), (45, .bool ((decide ((((j : Nat) : Int) : Int) < (2 : Int)))))]) ⟨rfl, rfl, rfl, rfl, rfl, rfl, rfl, rfl, rfl, rfl, rfl, rfl, rfl, rfl, rfl, rfl, rfl, rfl, trivial⟩ ?_)
              refine WE.next ?_
              refine WC.seq ?_
              refine WC.seq ?_
              refine WC.opt [(true, .val (.pointer (some ⟨g327, 0, none⟩))), (true, .val (.int .i64 ((tget [(lget l i).l, (lget l i).r] j).f))), (true, .val (.bool ((((tget [(lget l i).l, (lget l i).r] j).f : Int) == (0 : Int))))), (true, .val (.bool ((((tget [(lget l i).l, (lget l i).r] j).f : Int) == (0 : Int))))), ((true && (((tget [(lget l i).l, (lget l i).r] j).f : Int) == (0 : Int))), .val (.pointer (some ⟨g327, 1, none⟩))), ((true && (((tget [(lget l i).l, (lget l i).r] j).f : Int) == (0 : Int))), .val (.slice ((tw j ((A52 i)) ((A54 i)))) ((tget [(lget l i).l, (lget l i).r] j).args.length) ((tw j ((C53 i)) ((C55 i)))))), ((true && (((tget [(lget l i).l, (lget l i).r] j).f : Int) == (0 : Int))), .val (.int .i64 ((((tget [(lget l i).l, (lget l i).r] j).args.length : Nat) : Int)))), ((true && (((tget [(lget l i).l, (lget l i).r] j).f : Int) == (0 : Int))), .val (.bool ((((((tget [(lget l i).l, (lget l i).r] j).args.length : Nat) : Int) : Int) == (0 : Int))))), (true, .val (.bool (((((tget [(lget l i).l, (lget l i).r] j).f : Int) == (0 : Int)) && (((((tget [(lget l i).l, (lget l i).r] j).args.length : Nat) : Int) : Int) == (0 : Int))))))] [(0, .int .i64 (((n : Nat) : Int))), (1, .slice a l.length c), (2, .pointer (some ⟨g2, 0, none⟩)), (4, .slice none 0 0), (5, .pointer (some ⟨g20, 0, none⟩)), (7, .pointer (some ⟨g59, 0, none⟩)), (8, .pointer (some ⟨g83, 0, none⟩)), (10, .pointer (some ⟨g327, 0, none⟩)), (19, .bool (((decide ((((n : Nat) : Int) : Int) < (0 : Int))) || (decide ((96 : Int) < (((n : Nat) : Int) : Int)))))), (24, .slice a l.length c), (25, .int .i64 (((l.length : Nat) : Int))), (26, .int .i64 (((i : Nat) : Int))), (27, .bool ((decide ((((i : Nat) : Int) : Int) < (((l.length : Nat) : Int) : Int))))), (31, .bool ((lget l i).neg)), (42, .slice ((some ⟨g297, 0, none⟩)) 2 2), (43, .int .i64 2), (44, .int .i64 (((j : Nat) : Int))), (45, .bool ((decide ((((j : Nat) : Int) : Int) < (2 : Int)))))] ⟨rfl, rfl, rfl, rfl, rfl, rfl, rfl, rfl, rfl, rfl, rfl, rfl, rfl, rfl, rfl, rfl, rfl, rfl, trivial⟩ (by kernel_rfl) (by kernel_rfl) (by kernel_rfl) ?_ ?_
              · refine ⟨⟨true, .none rfl, fun h w => optUndef h, fun zβ za zw zc => ?_⟩, ?_⟩
                · exact fld_32_0 rfl (zc.kn.ev rfl) ⟨_, rfl, Below.refl _ _, optDef zβ rfl⟩
                refine ⟨⟨true, .none rfl, fun h w => optUndef h, fun zβ za zw zc => ?_⟩, ?_⟩
                · exact ld_3 rfl ((show za.eval (.tmp 48) = za.tmps.getD 48 undef from rfl).trans (optVal (zc.dep 0 48 (by kernel_rfl)) rfl rfl)) (bkeeps zc.below _ _ ((hB341.cell 0).trans rfl)) ⟨_, rfl, Below.refl _ _, optDef zβ rfl⟩
                refine ⟨⟨true, .none rfl, fun h w => optUndef h, fun zβ za zw zc => ?_⟩, ?_⟩
                · exact eql_3 rfl ((show za.eval (.tmp 49) = za.tmps.getD 49 undef from rfl).trans (optVal (zc.dep 1 49 (by kernel_rfl)) rfl rfl)) (zc.kn.ev rfl) ⟨_, rfl, Below.refl _ _, optDef zβ rfl⟩
                refine ⟨⟨true, .none rfl, fun h w => optUndef h, fun zβ za zw zc => ?_⟩, ?_⟩
                · exact wp_move rfl ((show za.eval (.tmp 50) = za.tmps.getD 50 undef from rfl).trans (optVal (zc.dep 2 50 (by kernel_rfl)) rfl rfl)) ⟨_, rfl, Below.refl _ _, optDef zβ rfl⟩
                refine ⟨⟨(true && (((tget [(lget l i).l, (lget l i).r] j).f : Int) == (0 : Int))), .yes (c := (((tget [(lget l i).l, (lget l i).r] j).f : Int) == (0 : Int))) (d := true) rfl (fun v w h => h), fun h w => optUndef h, fun zβ za zw zc => ?_⟩, ?_⟩
                · exact fld_32_1 rfl (zc.kn.ev rfl) ⟨_, rfl, Below.refl _ _, optDef zβ rfl⟩
                refine ⟨⟨(true && (((tget [(lget l i).l, (lget l i).r] j).f : Int) == (0 : Int))), .yes (c := (((tget [(lget l i).l, (lget l i).r] j).f : Int) == (0 : Int))) (d := true) rfl (fun v w h => h), fun h w => optUndef h, fun zβ za zw zc => ?_⟩, ?_⟩
                · exact ld_30 rfl ((show za.eval (.tmp 52) = za.tmps.getD 52 undef from rfl).trans (optVal (zc.dep 4 52 (by kernel_rfl)) rfl zβ)) (bkeeps zc.below _ _ ((hB341.cell 1).trans rfl)) ⟨_, rfl, Below.refl _ _, optDef zβ rfl⟩
                refine ⟨⟨(true && (((tget [(lget l i).l, (lget l i).r] j).f : Int) == (0 : Int))), .yes (c := (((tget [(lget l i).l, (lget l i).r] j).f : Int) == (0 : Int))) (d := true) rfl (fun v w h => h), fun h w => optUndef h, fun zβ za zw zc => ?_⟩, ?_⟩
                · exact len_30 rfl ((show za.eval (.tmp 53) = za.tmps.getD 53 undef from rfl).trans (optVal (zc.dep 5 53 (by kernel_rfl)) rfl zβ)) ⟨_, rfl, Below.refl _ _, optDef zβ rfl⟩
                refine ⟨⟨(true && (((tget [(lget l i).l, (lget l i).r] j).f : Int) == (0 : Int))), .yes (c := (((tget [(lget l i).l, (lget l i).r] j).f : Int) == (0 : Int))) (d := true) rfl (fun v w h => h), fun h w => optUndef h, fun zβ za zw zc => ?_⟩, ?_⟩
                · exact eql_3 rfl ((show za.eval (.tmp 54) = za.tmps.getD 54 undef from rfl).trans (optVal (zc.dep 6 54 (by kernel_rfl)) rfl zβ)) (zc.kn.ev rfl) ⟨_, rfl, Below.refl _ _, optDef zβ rfl⟩
                refine ⟨⟨true, .none rfl, fun h w => optUndef h, fun zβ za zw zc => ?_⟩, ?_⟩
                · exact wp_and rfl ((show za.eval (.tmp 51) = za.tmps.getD 51 undef from rfl).trans (optVal (zc.dep 3 51 (by kernel_rfl)) rfl rfl)) (fun hp => ((show za.eval (.tmp 55) = za.tmps.getD 55 undef from rfl).trans (optVal (zc.dep 7 55 (by kernel_rfl)) rfl (bMk zβ hp)))) ⟨_, rfl, Below.refl _ _, optDef zβ rfl⟩
                exact trivial
              · intro za w359 zh hb360 zu
                have zh := zh.cons (d := 56) (v := .bool (((((tget [(lget l i).l, (lget l i).r] j).f : Int) == (0 : Int)) && (((((tget [(lget l i).l, (lget l i).r] j).args.length : Nat) : Int) : Int) == (0 : Int))))) (optVal (zu 8 56 (by kernel_rfl)) rfl rfl)
                clear zu
                refine (show WE _ [(0, .int .i64 (((n : Nat) : Int))), (1, .slice a l.length c), (2, .pointer (some ⟨g2, 0, none⟩)), (4, .slice none 0 0), (5, .pointer (some ⟨g20, 0, none⟩)), (7, .pointer (some ⟨g59, 0, none⟩)), (8, .pointer (some ⟨g83, 0, none⟩)), (10, .pointer (some ⟨g327, 0, none⟩)), (19, .bool (((decide ((((n : Nat) : Int) : Int) < (0 : Int))) || (decide ((96 : Int) < (((n : Nat) : Int) : Int)))))), (24, .slice a l.length c), (25, .int .i64 (((l.length : Nat) : Int))), (26, .int .i64 (((i : Nat) : Int))), (27, .bool ((decide ((((i : Nat) : Int) : Int) < (((l.length : Nat) : Int) : Int))))), (31, .bool ((lget l i).neg)), (42, .slice ((some ⟨g297, 0, none⟩)) 2 2), (43, .int .i64 2), (44, .int .i64 (((j : Nat) : Int))), (45, .bool ((decide ((((j : Nat) : Int) : Int) < (2 : Int))))), (56, .bool (((((tget [(lget l i).l, (lget l i).r] j).f : Int) == (0 : Int)) && (((((tget [(lget l i).l, (lget l i).r] j).args.length : Nat) : Int) : Int) == (0 : Int)))))] w359 _ .normal from ?_) za (zh.sub ⟨rfl, rfl, rfl, rfl, rfl, rfl, rfl, rfl, rfl, rfl, rfl, rfl, rfl, rfl, rfl, rfl, rfl, rfl, rfl, trivial⟩)
                refine WE.next ?_
                refine WC.cond rfl (fun h361 => ?_) (fun h361 => ?_)
                · have h361 : (((tget [(lget l i).l, (lget l i).r] j).f : Int) = (0 : Int)) ∧ (((((tget [(lget l i).l, (lget l i).r] j).args.length : Nat) : Int) : Int) = (0 : Int)) := by simpa using h361
                  have htt : (tget [(lget l i).l, (lget l i).r] j).isTrue = true := T.isTrue_iff.2 (by have z := h361; omega)
                  have hgn : (inG n 0 (lget l i).l (lget l i).r (gset (outG n l i) 0 (outG n l i 0 + 1)) (j + 1)) = (inG n 0 (lget l i).l (lget l i).r (gset (outG n l i) 0 (outG n l i 0 + 1)) j) := by rw [inG_succ hj2]; unfold sideP; rw [if_pos htt]
                  refine WC.exit ?_
                  refine WE.thenExit ?_
                  refine WE.blockIs rfl ?_
                  refine WE.next ?_
                  refine WC.region ?_
                  refine WL.val (.int .i64 ((((j + 1) : Nat) : Int))) rfl rfl rfl (fun za zC zh zk => addb_3 rfl (zh.ev rfl) (zh.ev rfl) (wrap_eq (by omega) (by omega) (by omega)) zk) ?_
                  refine WL.val (.int .i64 ((((j + 1) : Nat) : Int))) rfl rfl rfl (fun za zC zh zk => wp_move rfl (zh.ev rfl) zk) ?_
                  refine WL.nil (WE.sub (K' := [(0, .int .i64 (((n : Nat) : Int))), (1, .slice a l.length c), (2, .pointer (some ⟨g2, 0, none⟩)), (4, .slice none 0 0), (5, .pointer (some ⟨g20, 0, none⟩)), (7, .pointer (some ⟨g59, 0, none⟩)), (8, .pointer (some ⟨g83, 0, none⟩)), (10, .pointer (some ⟨g327, 0, none⟩)), (19, .bool (((decide ((((n : Nat) : Int) : Int) < (0 : Int))) || (decide ((96 : Int) < (((n : Nat) : Int) : Int)))))), (24, .slice a l.length c), (25, .int .i64 (((l.length : Nat) : Int))), (26, .int .i64 (((i : Nat) : Int))), (27, .bool ((decide ((((i : Nat) : Int) : Int) < (((l.length : Nat) : Int) : Int))))), (31, .bool ((lget l i).neg)), (42, .slice ((some ⟨g297, 0, none⟩)) 2 2), (43, .int .i64 2), (44, .int .i64 ((((j + 1) : Nat) : Int))), (45, .bool ((decide ((((j : Nat) : Int) : Int) < (2 : Int))))), (56, .bool (((((tget [(lget l i).l, (lget l i).r] j).f : Int) == (0 : Int)) && (((((tget [(lget l i).l, (lget l i).r] j).args.length : Nat) : Int) : Int) == (0 : Int)))))]) ⟨rfl, rfl, rfl, rfl, rfl, rfl, rfl, rfl, rfl, rfl, rfl, rfl, rfl, rfl, rfl, rfl, rfl, rfl, rfl, trivial⟩ ?_)
                  refine WE.roundD (j + 1) Dl310 rfl ⟨rfl, rfl, rfl, rfl, rfl, rfl, rfl, rfl, rfl, rfl, rfl, rfl, rfl, rfl, rfl, rfl, trivial⟩ ?_ ?_
                  · have hb362 : Below w.heap.size w w359 := (bstep hb344 hb360)
                    have hB363 := hB346.below hb360
                    have hB364 := hB348.below hb360
                    have hB365 := hB350.below hb360
                    have hB366 := hB352.below hb360
                    have hB367 := hB354.below hb360
                    have ho368 := ho356.below hb360
                    have ho369 := ho358.below hb360
                    exact ⟨by omega, (by rw [hgn]; exact hj0), (fun k hk => by rw [hgn]; have z := hj1 k hk; omega), hb362, hB363, hB364, hB365, hB366, hB367, ho368, (IRow.congr ho369 hgn.symm)⟩
                  · omega
                · have h361 : ¬ ((((tget [(lget l i).l, (lget l i).r] j).f : Int) = (0 : Int)) ∧ (((((tget [(lget l i).l, (lget l i).r] j).args.length : Nat) : Int) : Int) = (0 : Int))) := by simpa using h361
                  have htt : ¬ (tget [(lget l i).l, (lget l i).r] j).isTrue = true := fun q => by have z := T.isTrue_iff.1 q; have z2 := h361; omega
                  refine WC.skip ?_
                  refine WE.next ?_
                  refine WC.seq ?_
                  refine WC.region ?_
                  have hB370 := hB341.below hb360
                  refine WL.val (.agg #[.int .i64 ((tget [(lget l i).l, (lget l i).r] j).f), .slice ((tw j ((A52 i)) ((A54 i)))) ((tget [(lget l i).l, (lget l i).r] j).args.length) ((tw j ((C53 i)) ((C55 i))))]) rfl rfl rfl (fun za zC zh zk => ld_32 rfl (zh.ev rfl) ((hB370.cell 0).trans rfl) ((hB370.cell 1).trans rfl) zk) ?_
                  have ho371 := ho358.below hb360
                  have hobp := ho371.lt
                  refine WL.call rfl rfl rfl (fun za zh zC => wp_call (by kernel_rfl) rfl (hv1 (zh.ev rfl))) (places_any (tget [(lget l i).l, (lget l i).r] j) _ _ _) ?_
                  rintro _ w372 ⟨⟨gt, rfl, hgl, hgt⟩, hbp⟩
                  refine WL.nil (WE.sub (K' := [(0, .int .i64 (((n : Nat) : Int))), (1, .slice a l.length c), (2, .pointer (some ⟨g2, 0, none⟩)), (4, .slice none 0 0), (5, .pointer (some ⟨g20, 0, none⟩)), (7, .pointer (some ⟨g59, 0, none⟩)), (8, .pointer (some ⟨g83, 0, none⟩)), (10, .pointer (some ⟨g327, 0, none⟩)), (19, .bool (((decide ((((n : Nat) : Int) : Int) < (0 : Int))) || (decide ((96 : Int) < (((n : Nat) : Int) : Int)))))), (24, .slice a l.length c), (25, .int .i64 (((l.length : Nat) : Int))), (26, .int .i64 (((i : Nat) : Int))), (27, .bool ((decide ((((i : Nat) : Int) : Int) < (((l.length : Nat) : Int) : Int))))), (31, .bool ((lget l i).neg)), (42, .slice ((some ⟨g297, 0, none⟩)) 2 2), (43, .int .i64 2), (44, .int .i64 (((j : Nat) : Int))), (45, .bool ((decide ((((j : Nat) : Int) : Int) < (2 : Int))))), (56, .bool (((((tget [(lget l i).l, (lget l i).r] j).f : Int) == (0 : Int)) && (((((tget [(lget l i).l, (lget l i).r] j).args.length : Nat) : Int) : Int) == (0 : Int))))), (58, .func (.func 45) #[] #[.pointer (some ⟨gt, 0, none⟩)])]) ⟨rfl, rfl, rfl, rfl, rfl, rfl, rfl, rfl, rfl, rfl, rfl, rfl, rfl, rfl, rfl, rfl, rfl, rfl, rfl, rfl, trivial⟩ ?_)
                  refine WE.next ?_
                  refine WC.block ?_
                  have ho373 := ho371.below hbp
                  have hLw := IsT.inT (InT.isT (hc57 i (by first | omega | (simp; omega))).2.2.2.2.2.1)
                  have hRw := IsT.inT (InT.isT (hc57 i (by first | omega | (simp; omega))).2.2.2.2.2.2)
                  have hobl := ho373.lt
                  have hob : w.heap.size ≤ ob := hob9
                  have hb374 : Below w.heap.size w w372 := (bstep (bstep hb344 hb360) hbp)
                  have htS : InT (fun b => ¬ b = ob) w372 (tget [(lget l i).l, (lget l i).r] j) (.agg #[.int .i64 (tget [(lget l i).l, (lget l i).r] j).f, .slice (tw j ((A52 i)) ((A54 i))) (tget [(lget l i).l, (lget l i).r] j).args.length (tw j ((C53 i)) ((C55 i)))]) := (InT.old (B := w.heap.size) hb374 (Nat.le_refl _) (two_in hLw hRw hj2)).mono (fun b q _ e => by (try dsimp only at *); omega)
                  have hpln := T.pl_len (tget [(lget l i).l, (lget l i).r] j) 1
                  have hb377 : Below w339.heap.size w339 w372 := (bstep hb360 hbp)
                  have ho376 := ho356.below hb377
                  refine WC.rangeK (γ := Unit) (encs := fun zx => [.int .i64 (((zx.1 : Nat) : Int)), .int .i64 (((zx.2 : Nat) : Int))]) ((fun b => b = ob)) rfl (by kernel_rfl) (by kernel_rfl) (places_seq (w0 := w372) (fun b => b = ob) (fun b q e => by have e2 : b = ob := e; omega) (by (try dsimp only); omega) hgt htS htz)  ((Below.refl _ _)) (fun _ => rfl) (fun x zy => [(0, .int .i64 (((n : Nat) : Int))), (1, .slice a l.length c), (2, .pointer (some ⟨g2, 0, none⟩)), (4, .slice none 0 0), (5, .pointer (some ⟨g20, 0, none⟩)), (7, .pointer (some ⟨g59, 0, none⟩)), (8, .pointer (some ⟨g83, 0, none⟩)), (10, .pointer (some ⟨g327, 0, none⟩)), (11, .int .i64 (((x.1 : Nat) : Int))), (12, .int .i64 (((x.2 : Nat) : Int))), (19, .bool (((decide ((((n : Nat) : Int) : Int) < (0 : Int))) || (decide ((96 : Int) < (((n : Nat) : Int) : Int)))))), (24, .slice a l.length c), (25, .int .i64 (((l.length : Nat) : Int))), (26, .int .i64 (((i : Nat) : Int))), (27, .bool ((decide ((((i : Nat) : Int) : Int) < (((l.length : Nat) : Int) : Int))))), (31, .bool ((lget l i).neg)), (42, .slice ((some ⟨g297, 0, none⟩)) 2 2), (43, .int .i64 2), (44, .int .i64 (((j : Nat) : Int))), (45, .bool ((decide ((((j : Nat) : Int) : Int) < (2 : Int))))), (56, .bool (((((tget [(lget l i).l, (lget l i).r] j).f : Int) == (0 : Int)) && (((((tget [(lget l i).l, (lget l i).r] j).args.length : Nat) : Int) : Int) == (0 : Int))))), (58, .func (.func 45) #[] #[.pointer (some ⟨gt, 0, none⟩)])]) (fun x zy w375 => True) (fun pre w375 => IRow w375 3 ob (2 + 4 * n) (pre.foldl (put1 n 0) (inG n 0 (lget l i).l (lget l i).r (gset (outG n l i) 0 (outG n l i 0 + 1)) j)) ∧ w372.heap.size ≤ (w375).heap.size ∧ Below w.heap.size w w375 ∧ Blk w375 g2 3 #[.int .i64 (((n : Nat) : Int))] ∧ Blk w375 g20 27 #[.slice ((some ⟨ob, 0, none⟩)) ((2 + 4 * n)) ((2 + 4 * n))] ∧ Blk w375 g59 34 #[.bool ((lget l i).neg), .int .i64 ((lget l i).l.f), .slice ((A52 i)) ((lget l i).l.args.length) ((C53 i)), .int .i64 ((lget l i).r.f), .slice ((A54 i)) ((lget l i).r.args.length) ((C55 i))] ∧ Blk w375 g83 3 #[.int .i64 0] ∧ Blk w375 g297 32 #[.int .i64 ((lget l i).l.f), .slice ((A52 i)) ((lget l i).l.args.length) ((C53 i)), .int .i64 ((lget l i).r.f), .slice ((A54 i)) ((lget l i).r.args.length) ((C55 i))] ∧ Blk w375 g327 32 #[.int .i64 ((tget [(lget l i).l, (lget l i).r] j).f), .slice ((tw j ((A52 i)) ((A54 i)))) ((tget [(lget l i).l, (lget l i).r] j).args.length) ((tw j ((C53 i)) ((C55 i))))] ∧ Blk w375 gt 32 #[.int .i64 ((tget [(lget l i).l, (lget l i).r] j).f), .slice ((tw j ((A52 i)) ((A54 i)))) ((tget [(lget l i).l, (lget l i).r] j).args.length) ((tw j ((C53 i)) ((C55 i))))] ∧ Marks w.heap.size w375 Dl310) (fun zc pre w375 => False) (fun pre w1 w2 t h => (by obtain ⟨z0, z1, z2, z3, z4, z5, z6, z7, z8, z9, z10⟩ := h; exact ⟨IRow.turn z0 t, Nat.le_trans z1 t.size, below_turn z2 t hb374.size, blk_turn z3 t, blk_turn z4 t, blk_turn z5 t, blk_turn z6 t, blk_turn z7 t, blk_turn z8 t, blk_turn z9 t, Marks.turn z10 t (fun D hD => Marks.lt ho376 hD)⟩)) (fun zc pre w1 w2 t h => h.elim) (fun x zy w1 w2 t h => h) ?_ ?_ ?_ ?_ ?_
                  · have hB378 := hB346.below hb377
                    have hB379 := hB348.below hb377
                    have hB380 := hB350.below hb377
                    have hB381 := hB352.below hb377
                    have hB382 := hB354.below hb377
                    have hB383 := hB370.below hbp
                    exact ⟨ho373, (Nat.le_refl _), hb374, hB378, hB379, hB380, hB381, hB382, hB383, hgt, ho376⟩
                  · rintro zl384 pre x w385 ⟨_, hzs, hb386, _, _, _, _, _, _, _, _⟩
                    refine WC.sub (K' := [(0, .int .i64 (((n : Nat) : Int))), (1, .slice a l.length c), (2, .pointer (some ⟨g2, 0, none⟩)), (4, .slice none 0 0), (5, .pointer (some ⟨g20, 0, none⟩)), (7, .pointer (some ⟨g59, 0, none⟩)), (8, .pointer (some ⟨g83, 0, none⟩)), (10, .pointer (some ⟨g327, 0, none⟩)), (19, .bool (((decide ((((n : Nat) : Int) : Int) < (0 : Int))) || (decide ((96 : Int) < (((n : Nat) : Int) : Int)))))), (24, .slice a l.length c), (25, .int .i64 (((l.length : Nat) : Int))), (26, .int .i64 (((i : Nat) : Int))), (27, .bool ((decide ((((i : Nat) : Int) : Int) < (((l.length : Nat) : Int) : Int))))), (31, .bool ((lget l i).neg)), (42, .slice ((some ⟨g297, 0, none⟩)) 2 2), (43, .int .i64 2), (44, .int .i64 (((j : Nat) : Int))), (45, .bool ((decide ((((j : Nat) : Int) : Int) < (2 : Int))))), (56, .bool (((((tget [(lget l i).l, (lget l i).r] j).f : Int) == (0 : Int)) && (((((tget [(lget l i).l, (lget l i).r] j).args.length : Nat) : Int) : Int) == (0 : Int))))), (58, .func (.func 45) #[] #[.pointer (some ⟨gt, 0, none⟩)]), (59, .int .i64 (((x.1 : Nat) : Int))), (60, .int .i64 (((x.2 : Nat) : Int)))]) ⟨rfl, rfl, rfl, rfl, rfl, rfl, rfl, rfl, rfl, rfl, rfl, rfl, rfl, rfl, rfl, rfl, rfl, rfl, rfl, rfl, rfl, rfl, trivial⟩ ?_
                    refine WC.seq ?_
                    refine WC.region ?_
                    refine WL.val (.int .i64 (((x.1 : Nat) : Int))) rfl rfl rfl (fun za zC zh zk => wp_assign rfl (zh.ev rfl) zk) ?_
                    refine WL.nil (WE.sub (K' := [(0, .int .i64 (((n : Nat) : Int))), (1, .slice a l.length c), (2, .pointer (some ⟨g2, 0, none⟩)), (4, .slice none 0 0), (5, .pointer (some ⟨g20, 0, none⟩)), (7, .pointer (some ⟨g59, 0, none⟩)), (8, .pointer (some ⟨g83, 0, none⟩)), (10, .pointer (some ⟨g327, 0, none⟩)), (11, .int .i64 (((x.1 : Nat) : Int))), (19, .bool (((decide ((((n : Nat) : Int) : Int) < (0 : Int))) || (decide ((96 : Int) < (((n : Nat) : Int) : Int)))))), (24, .slice a l.length c), (25, .int .i64 (((l.length : Nat) : Int))), (26, .int .i64 (((i : Nat) : Int))), (27, .bool ((decide ((((i : Nat) : Int) : Int) < (((l.length : Nat) : Int) : Int))))), (31, .bool ((lget l i).neg)), (42, .slice ((some ⟨g297, 0, none⟩)) 2 2), (43, .int .i64 2), (44, .int .i64 (((j : Nat) : Int))), (45, .bool ((decide ((((j : Nat) : Int) : Int) < (2 : Int))))), (56, .bool (((((tget [(lget l i).l, (lget l i).r] j).f : Int) == (0 : Int)) && (((((tget [(lget l i).l, (lget l i).r] j).args.length : Nat) : Int) : Int) == (0 : Int))))), (58, .func (.func 45) #[] #[.pointer (some ⟨gt, 0, none⟩)]), (59, .int .i64 (((x.1 : Nat) : Int))), (60, .int .i64 (((x.2 : Nat) : Int)))]) ⟨rfl, rfl, rfl, rfl, rfl, rfl, rfl, rfl, rfl, rfl, rfl, rfl, rfl, rfl, rfl, rfl, rfl, rfl, rfl, rfl, rfl, rfl, rfl, trivial⟩ ?_)
                    refine WE.next ?_
                    refine WC.region ?_
                    refine WL.val (.int .i64 (((x.2 : Nat) : Int))) rfl rfl rfl (fun za zC zh zk => wp_assign rfl (zh.ev rfl) zk) ?_
                    refine WL.nil (WE.sub (K' := [(0, .int .i64 (((n : Nat) : Int))), (1, .slice a l.length c), (2, .pointer (some ⟨g2, 0, none⟩)), (4, .slice none 0 0), (5, .pointer (some ⟨g20, 0, none⟩)), (7, .pointer (some ⟨g59, 0, none⟩)), (8, .pointer (some ⟨g83, 0, none⟩)), (10, .pointer (some ⟨g327, 0, none⟩)), (11, .int .i64 (((x.1 : Nat) : Int))), (12, .int .i64 (((x.2 : Nat) : Int))), (19, .bool (((decide ((((n : Nat) : Int) : Int) < (0 : Int))) || (decide ((96 : Int) < (((n : Nat) : Int) : Int)))))), (24, .slice a l.length c), (25, .int .i64 (((l.length : Nat) : Int))), (26, .int .i64 (((i : Nat) : Int))), (27, .bool ((decide ((((i : Nat) : Int) : Int) < (((l.length : Nat) : Int) : Int))))), (31, .bool ((lget l i).neg)), (42, .slice ((some ⟨g297, 0, none⟩)) 2 2), (43, .int .i64 2), (44, .int .i64 (((j : Nat) : Int))), (45, .bool ((decide ((((j : Nat) : Int) : Int) < (2 : Int))))), (56, .bool (((((tget [(lget l i).l, (lget l i).r] j).f : Int) == (0 : Int)) && (((((tget [(lget l i).l, (lget l i).r] j).args.length : Nat) : Int) : Int) == (0 : Int))))), (58, .func (.func 45) #[] #[.pointer (some ⟨gt, 0, none⟩)]), (59, .int .i64 (((x.1 : Nat) : Int))), (60, .int .i64 (((x.2 : Nat) : Int)))]) ⟨rfl, rfl, rfl, rfl, rfl, rfl, rfl, rfl, rfl, rfl, rfl, rfl, rfl, rfl, rfl, rfl, rfl, rfl, rfl, rfl, rfl, rfl, rfl, rfl, trivial⟩ ?_)
                    exact fun _ zk => ⟨(Below.refl _ _), (), zk.sub ⟨rfl, rfl, rfl, rfl, rfl, rfl, rfl, rfl, rfl, rfl, rfl, rfl, rfl, rfl, rfl, rfl, rfl, rfl, rfl, rfl, rfl, rfl, trivial⟩, trivial⟩
                  · rintro zl387 pre x zy w388 ⟨hMr, hz398, hb390, hB391, hB392, hB393, hB394, hB395, hB396, hB397, hzm⟩ _ hl389
                    have hpf0 : ∀ k, 0 ≤ (pre.foldl (put1 n 0) (inG n 0 (lget l i).l (lget l i).r (gset (outG n l i) 0 (outG n l i 0 + 1)) j)) k := put1_fold_nonneg _ _ hj0
                    have hpf1 : ∀ k, evn k → (pre.foldl (put1 n 0) (inG n 0 (lget l i).l (lget l i).r (gset (outG n l i) 0 (outG n l i 0 + 1)) j)) k ≤ i * 17179869184 + 1 + j * 4294967296 + pre.length := fun k hk => by have z := put1_fold_ev (n := n) (way := 0) hk pre (inG n 0 (lget l i).l (lget l i).r (gset (outG n l i) 0 (outG n l i 0 + 1)) j); have z2 := hj1 k hk; omega
                    refine WC.block ?_
                    refine WC.seq ?_
                    refine WC.seq ?_
                    refine WC.region ?_
                    refine WL.val (.int .i64 (((x.1 : Nat) : Int))) rfl rfl rfl (fun za zC zh zk => wp_move rfl (zh.ev rfl) zk) ?_
                    refine WL.val (.int .i64 (((n : Nat) : Int))) rfl rfl rfl (fun za zC zh zk => ld_3 rfl (zh.ev rfl) ((hB391.cell 0).trans rfl) zk) ?_
                    refine WL.val (.bool ((decide ((((n : Nat) : Int) : Int) ≤ (((x.1 : Nat) : Int) : Int))))) rfl rfl rfl (fun za zC zh zk => geq_3 rfl (zh.ev rfl) (zh.ev rfl) zk) ?_
                    refine WL.nil (WE.sub (K' := [(0, .int .i64 (((n : Nat) : Int))), (1, .slice a l.length c), (2, .pointer (some ⟨g2, 0, none⟩)), (4, .slice none 0 0), (5, .pointer (some ⟨g20, 0, none⟩)), (7, .pointer (some ⟨g59, 0, none⟩)), (8, .pointer (some ⟨g83, 0, none⟩)), (10, .pointer (some ⟨g327, 0, none⟩)), (11, .int .i64 (((x.1 : Nat) : Int))), (12, .int .i64 (((x.2 : Nat) : Int))), (19, .bool (((decide ((((n : Nat) : Int) : Int) < (0 : Int))) || (decide ((96 : Int) < (((n : Nat) : Int) : Int)))))), (24, .slice a l.length c), (25, .int .i64 (((l.length : Nat) : Int))), (26, .int .i64 (((i : Nat) : Int))), (27, .bool ((decide ((((i : Nat) : Int) : Int) < (((l.length : Nat) : Int) : Int))))), (31, .bool ((lget l i).neg)), (42, .slice ((some ⟨g297, 0, none⟩)) 2 2), (43, .int .i64 2), (44, .int .i64 (((j : Nat) : Int))), (45, .bool ((decide ((((j : Nat) : Int) : Int) < (2 : Int))))), (56, .bool (((((tget [(lget l i).l, (lget l i).r] j).f : Int) == (0 : Int)) && (((((tget [(lget l i).l, (lget l i).r] j).args.length : Nat) : Int) : Int) == (0 : Int))))), (58, .func (.func 45) #[] #[.pointer (some ⟨gt, 0, none⟩)]), (63, .bool ((decide ((((n : Nat) : Int) : Int) ≤ (((x.1 : Nat) : Int) : Int)))))]) ⟨rfl, rfl, rfl, rfl, rfl, rfl, rfl, rfl, rfl, rfl, rfl, rfl, rfl, rfl, rfl, rfl, rfl, rfl, rfl, rfl, rfl, rfl, rfl, trivial⟩ ?_)
                    refine WE.next ?_
                    refine WC.cond rfl (fun h399 => ?_) (fun h399 => ?_)
                    · have h399 : (((n : Nat) : Int) : Int) ≤ (((x.1 : Nat) : Int) : Int) := by simpa using h399
                      refine WC.exit ?_
                      refine WE.thenExit ?_
                      refine WE.blockIs rfl ?_
                      have hs400 : Chg ((fun b => b = ob)) w388 w388 := (Chg.refl ((fun b => b = ob)) _)
                      exact fun _ _ => ⟨(KeepsFrom.refl _ _), (Kpt.ofChg hs400), ⟨(IRow.congr hMr (by rw [List.foldl_append]; show _ = put1 n 0 _ x; unfold put1; rw [if_neg (by omega)])), hz398, hb390, hB391, hB392, hB393, hB394, hB395, hB396, hB397, hzm⟩⟩
                    · have h399 : ¬ ((((n : Nat) : Int) : Int) ≤ (((x.1 : Nat) : Int) : Int)) := by simpa using h399
                      refine WC.skip ?_
                      refine WE.next ?_
                      refine WC.seq ?_
                      refine WC.region ?_
                      refine WL.val (.slice ((some ⟨ob, 0, none⟩)) ((2 + 4 * n)) ((2 + 4 * n))) rfl rfl rfl (fun za zC zh zk => ld_27 rfl (zh.ev rfl) ((hB392.cell 0).trans rfl) zk) ?_
                      refine WL.val (.int .i64 (((x.1 : Nat) : Int))) rfl rfl rfl (fun za zC zh zk => wp_move rfl (zh.ev rfl) zk) ?_
                      refine WL.val (.int .i64 ((((4 * x.1) : Nat) : Int))) rfl rfl rfl (fun za zC zh zk => mulb_3 rfl (zh.ev rfl) (zh.ev rfl) (wrap_eq (by omega) (by omega) (by omega)) zk) ?_
                      refine WL.val (.int .i64 ((((2 + 4 * x.1) : Nat) : Int))) rfl rfl rfl (fun za zC zh zk => addb_3 rfl (zh.ev rfl) (zh.ev rfl) (wrap_eq (by omega) (by omega) (by omega)) zk) ?_
                      refine WL.val (.int .i64 0) rfl rfl rfl (fun za zC zh zk => ld_3 rfl (zh.ev rfl) ((hB394.cell 0).trans rfl) zk) ?_
                      refine WL.val (.int .i64 ((((2 * 0) : Nat) : Int))) rfl rfl rfl (fun za zC zh zk => mulb_3 rfl (zh.ev rfl) (zh.ev rfl) (wrap_eq (by omega) (by omega) (by omega)) zk) ?_
                      refine WL.val (.int .i64 ((((2 + 4 * x.1 + 2 * 0) : Nat) : Int))) rfl rfl rfl (fun za zC zh zk => addb_3 rfl (zh.ev rfl) (zh.ev rfl) (wrap_eq (by omega) (by omega) (by omega)) zk) ?_
                      refine WL.val (.slice ((slA ((some ⟨ob, 0, none⟩)) ((2 + 4 * x.1 + 2 * 0)) 1 ((2 + 4 * n)))) (((2 + 4 * n) - (2 + 4 * x.1 + 2 * 0))) (((2 + 4 * n) - (2 + 4 * x.1 + 2 * 0)))) rfl rfl rfl (fun za zC zh zk => slo_27 (k := (2 + 4 * x.1 + 2 * 0)) rfl (zh.ev rfl) (zh.ev rfl) (by omega) (by omega) zk) ?_
                      refine WL.val (.slice ((slA ((some ⟨ob, 0, none⟩)) ((2 + 4 * x.1 + 2 * 0)) 1 ((2 + 4 * n)))) 2 (((2 + 4 * n) - (2 + 4 * x.1 + 2 * 0)))) rfl rfl rfl (fun za zC zh zk => shi_27 (k := 2) rfl (zh.ev rfl) (zh.ev rfl) (by omega) zk) ?_
                      refine WL.val (.slice ((slA ((some ⟨ob, 0, none⟩)) ((2 + 4 * x.1 + 2 * 0)) 1 ((2 + 4 * n)))) 2 (((2 + 4 * n) - (2 + 4 * x.1 + 2 * 0)))) rfl rfl rfl (fun za zC zh zk => wp_assign rfl (zh.ev rfl) zk) ?_
                      refine WL.nil (WE.sub (K' := [(0, .int .i64 (((n : Nat) : Int))), (1, .slice a l.length c), (2, .pointer (some ⟨g2, 0, none⟩)), (4, .slice none 0 0), (5, .pointer (some ⟨g20, 0, none⟩)), (7, .pointer (some ⟨g59, 0, none⟩)), (8, .pointer (some ⟨g83, 0, none⟩)), (10, .pointer (some ⟨g327, 0, none⟩)), (11, .int .i64 (((x.1 : Nat) : Int))), (12, .int .i64 (((x.2 : Nat) : Int))), (13, .slice ((slA ((some ⟨ob, 0, none⟩)) ((2 + 4 * x.1 + 2 * 0)) 1 ((2 + 4 * n)))) 2 (((2 + 4 * n) - (2 + 4 * x.1 + 2 * 0)))), (19, .bool (((decide ((((n : Nat) : Int) : Int) < (0 : Int))) || (decide ((96 : Int) < (((n : Nat) : Int) : Int)))))), (24, .slice a l.length c), (25, .int .i64 (((l.length : Nat) : Int))), (26, .int .i64 (((i : Nat) : Int))), (27, .bool ((decide ((((i : Nat) : Int) : Int) < (((l.length : Nat) : Int) : Int))))), (31, .bool ((lget l i).neg)), (42, .slice ((some ⟨g297, 0, none⟩)) 2 2), (43, .int .i64 2), (44, .int .i64 (((j : Nat) : Int))), (45, .bool ((decide ((((j : Nat) : Int) : Int) < (2 : Int))))), (56, .bool (((((tget [(lget l i).l, (lget l i).r] j).f : Int) == (0 : Int)) && (((((tget [(lget l i).l, (lget l i).r] j).args.length : Nat) : Int) : Int) == (0 : Int))))), (58, .func (.func 45) #[] #[.pointer (some ⟨gt, 0, none⟩)]), (63, .bool ((decide ((((n : Nat) : Int) : Int) ≤ (((x.1 : Nat) : Int) : Int)))))]) ⟨rfl, rfl, rfl, rfl, rfl, rfl, rfl, rfl, rfl, rfl, rfl, rfl, rfl, rfl, rfl, rfl, rfl, rfl, rfl, rfl, rfl, rfl, rfl, rfl, trivial⟩ ?_)
                      refine WE.next ?_
                      refine WC.seq ?_
                      refine WC.region ?_
                      refine WL.val (.slice ((slA ((some ⟨ob, 0, none⟩)) ((2 + 4 * x.1 + 2 * 0)) 1 ((2 + 4 * n)))) 2 (((2 + 4 * n) - (2 + 4 * x.1 + 2 * 0)))) rfl rfl rfl (fun za zC zh zk => wp_move rfl (zh.ev rfl) zk) ?_
                      refine WL.val (.pointer (some ⟨ob, 0 + ((2 + 4 * x.1 + 2 * 0)) * 1 + 0, none⟩)) rfl rfl rfl (fun za zC zh zk => ix_27 (k := 0) rfl (zh.ev rfl) (slA_some (by omega)) (zh.ev rfl) (by first | omega | (simp; omega)) zk) ?_
                      refine WL.val (.int .i64 (((pre.foldl (put1 n 0) (inG n 0 (lget l i).l (lget l i).r (gset (outG n l i) 0 (outG n l i 0 + 1)) j)) ((2 + 4 * x.1 + 2 * 0))))) rfl rfl rfl (fun za zC zh zk => ld_3 rfl (zh.ev rfl) (IRow.cellAt hMr (by omega) (by omega)) zk) ?_
                      refine WL.val (.int .i64 ((((pre.foldl (put1 n 0) (inG n 0 (lget l i).l (lget l i).r (gset (outG n l i) 0 (outG n l i 0 + 1)) j)) ((2 + 4 * x.1 + 2 * 0))) + 1))) rfl rfl rfl (fun za zC zh zk => addb_3 rfl (zh.ev rfl) (zh.ev rfl) (wrap_eq rfl (by have z := hpf0 (2 + 4 * x.1 + 2 * 0); omega) (by have z := hpf1 (2 + 4 * x.1 + 2 * 0) (by unfold evn; omega); omega)) zk) ?_
                      refine WL.val (.pointer (some ⟨ob, 0 + ((2 + 4 * x.1 + 2 * 0)) * 1 + 0, none⟩)) rfl rfl rfl (fun za zC zh zk => ix_27 (k := 0) rfl (zh.ev rfl) (slA_some (by omega)) (zh.ev rfl) (by first | omega | (simp; omega)) zk) ?_
                      refine WL.step (post := fun _ w' => Upd ob w388 w' ∧ IRow w' 3 ob (2 + 4 * n) (gset (pre.foldl (put1 n 0) (inG n 0 (lget l i).l (lget l i).r (gset (outG n l i) 0 (outG n l i 0 + 1)) j)) ((2 + 4 * x.1 + 2 * 0)) ((((pre.foldl (put1 n 0) (inG n 0 (lget l i).l (lget l i).r (gset (outG n l i) 0 (outG n l i 0 + 1)) j)) ((2 + 4 * x.1 + 2 * 0))) + 1)))) rfl rfl rfl (fun za zC zh zk => st_3 rfl (zh.ev rfl) (zh.ev rfl) (hMr).blk (IRow.size hMr (by omega)) (fun v => zk v _ ⟨Upd.at_ _ _ _ _, IRow.setAt hMr _ (by omega) (by omega)⟩)) ?_
                      rintro v404 w401 ⟨hu402, hM403⟩
                      have hb405 := upd_below hb390 hu402 (by omega)
                      have hB406 := upd_blk hB391 hu402 (by omega)
                      have hB407 := upd_blk hB392 hu402 (by omega)
                      have hB408 := upd_blk hB393 hu402 (by omega)
                      have hB409 := upd_blk hB394 hu402 (by omega)
                      have hB410 := upd_blk hB395 hu402 (by omega)
                      have hB411 := upd_blk hB396 hu402 (by omega)
                      have hB412 := upd_blk hB397 hu402 (by omega)
                      have ho413 := hzm.upd hu402 (⟨_, (hMr).blk, rfl⟩)
                      refine WL.nil (WE.sub (K' := [(0, .int .i64 (((n : Nat) : Int))), (1, .slice a l.length c), (2, .pointer (some ⟨g2, 0, none⟩)), (4, .slice none 0 0), (5, .pointer (some ⟨g20, 0, none⟩)), (7, .pointer (some ⟨g59, 0, none⟩)), (8, .pointer (some ⟨g83, 0, none⟩)), (10, .pointer (some ⟨g327, 0, none⟩)), (11, .int .i64 (((x.1 : Nat) : Int))), (12, .int .i64 (((x.2 : Nat) : Int))), (13, .slice ((slA ((some ⟨ob, 0, none⟩)) ((2 + 4 * x.1 + 2 * 0)) 1 ((2 + 4 * n)))) 2 (((2 + 4 * n) - (2 + 4 * x.1 + 2 * 0)))), (19, .bool (((decide ((((n : Nat) : Int) : Int) < (0 : Int))) || (decide ((96 : Int) < (((n : Nat) : Int) : Int)))))), (24, .slice a l.length c), (25, .int .i64 (((l.length : Nat) : Int))), (26, .int .i64 (((i : Nat) : Int))), (27, .bool ((decide ((((i : Nat) : Int) : Int) < (((l.length : Nat) : Int) : Int))))), (31, .bool ((lget l i).neg)), (42, .slice ((some ⟨g297, 0, none⟩)) 2 2), (43, .int .i64 2), (44, .int .i64 (((j : Nat) : Int))), (45, .bool ((decide ((((j : Nat) : Int) : Int) < (2 : Int))))), (56, .bool (((((tget [(lget l i).l, (lget l i).r] j).f : Int) == (0 : Int)) && (((((tget [(lget l i).l, (lget l i).r] j).args.length : Nat) : Int) : Int) == (0 : Int))))), (58, .func (.func 45) #[] #[.pointer (some ⟨gt, 0, none⟩)]), (63, .bool ((decide ((((n : Nat) : Int) : Int) ≤ (((x.1 : Nat) : Int) : Int)))))]) ⟨rfl, rfl, rfl, rfl, rfl, rfl, rfl, rfl, rfl, rfl, rfl, rfl, rfl, rfl, rfl, rfl, rfl, rfl, rfl, rfl, rfl, rfl, rfl, rfl, trivial⟩ ?_)
                      refine WE.next ?_
                      refine WC.region ?_
                      refine WL.val (.slice ((slA ((some ⟨ob, 0, none⟩)) ((2 + 4 * x.1 + 2 * 0)) 1 ((2 + 4 * n)))) 2 (((2 + 4 * n) - (2 + 4 * x.1 + 2 * 0)))) rfl rfl rfl (fun za zC zh zk => wp_move rfl (zh.ev rfl) zk) ?_
                      refine WL.val (.slice ((slA ((some ⟨ob, 0, none⟩)) ((2 + 4 * x.1 + 2 * 0)) 1 ((2 + 4 * n)))) 2 (((2 + 4 * n) - (2 + 4 * x.1 + 2 * 0)))) rfl rfl rfl (fun za zC zh zk => wp_move rfl (zh.ev rfl) zk) ?_
                      refine WL.val (.pointer (some ⟨ob, 0 + ((2 + 4 * x.1 + 2 * 0)) * 1 + 1, none⟩)) rfl rfl rfl (fun za zC zh zk => ix_27 (k := 1) rfl (zh.ev rfl) (slA_some (by omega)) (zh.ev rfl) (by first | omega | (simp; omega)) zk) ?_
                      refine WL.val (.int .i64 (((gset (pre.foldl (put1 n 0) (inG n 0 (lget l i).l (lget l i).r (gset (outG n l i) 0 (outG n l i 0 + 1)) j)) ((2 + 4 * x.1 + 2 * 0)) ((((pre.foldl (put1 n 0) (inG n 0 (lget l i).l (lget l i).r (gset (outG n l i) 0 (outG n l i 0 + 1)) j)) ((2 + 4 * x.1 + 2 * 0))) + 1))) (((2 + 4 * x.1 + 2 * 0) + 1))))) rfl rfl rfl (fun za zC zh zk => ld_3 rfl (zh.ev rfl) (IRow.cellAt hM403 (by omega) (by omega)) zk) ?_
                      refine WL.val (.int .i64 (((x.2 : Nat) : Int))) rfl rfl rfl (fun za zC zh zk => wp_move rfl (zh.ev rfl) zk) ?_
                      refine WL.val (.int .i64 ((max (((gset (pre.foldl (put1 n 0) (inG n 0 (lget l i).l (lget l i).r (gset (outG n l i) 0 (outG n l i 0 + 1)) j)) ((2 + 4 * x.1 + 2 * 0)) ((((pre.foldl (put1 n 0) (inG n 0 (lget l i).l (lget l i).r (gset (outG n l i) 0 (outG n l i 0 + 1)) j)) ((2 + 4 * x.1 + 2 * 0))) + 1))) (((2 + 4 * x.1 + 2 * 0) + 1)))) (((x.2 : Nat) : Int))))) rfl rfl rfl (fun za zC zh zk => wp_max3 rfl (zh.ev rfl) (zh.ev rfl) rfl zk) ?_
                      refine WL.val (.pointer (some ⟨ob, 0 + ((2 + 4 * x.1 + 2 * 0)) * 1 + 1, none⟩)) rfl rfl rfl (fun za zC zh zk => ix_27 (k := 1) rfl (zh.ev rfl) (slA_some (by omega)) (zh.ev rfl) (by first | omega | (simp; omega)) zk) ?_
                      refine WL.step (post := fun _ w' => Upd ob w401 w' ∧ IRow w' 3 ob (2 + 4 * n) (gset (gset (pre.foldl (put1 n 0) (inG n 0 (lget l i).l (lget l i).r (gset (outG n l i) 0 (outG n l i 0 + 1)) j)) ((2 + 4 * x.1 + 2 * 0)) ((((pre.foldl (put1 n 0) (inG n 0 (lget l i).l (lget l i).r (gset (outG n l i) 0 (outG n l i 0 + 1)) j)) ((2 + 4 * x.1 + 2 * 0))) + 1))) (((2 + 4 * x.1 + 2 * 0) + 1)) ((max (((gset (pre.foldl (put1 n 0) (inG n 0 (lget l i).l (lget l i).r (gset (outG n l i) 0 (outG n l i 0 + 1)) j)) ((2 + 4 * x.1 + 2 * 0)) ((((pre.foldl (put1 n 0) (inG n 0 (lget l i).l (lget l i).r (gset (outG n l i) 0 (outG n l i 0 + 1)) j)) ((2 + 4 * x.1 + 2 * 0))) + 1))) (((2 + 4 * x.1 + 2 * 0) + 1)))) (((x.2 : Nat) : Int)))))) rfl rfl rfl (fun za zC zh zk => st_3 rfl (zh.ev rfl) (zh.ev rfl) (hM403).blk (IRow.size hM403 (by omega)) (fun v => zk v _ ⟨Upd.at_ _ _ _ _, IRow.setAt hM403 _ (by omega) (by omega)⟩)) ?_
                      rintro v417 w414 ⟨hu415, hM416⟩
                      have hb418 := upd_below hb405 hu415 (by omega)
                      have hB419 := upd_blk hB406 hu415 (by omega)
                      have hB420 := upd_blk hB407 hu415 (by omega)
                      have hB421 := upd_blk hB408 hu415 (by omega)
                      have hB422 := upd_blk hB409 hu415 (by omega)
                      have hB423 := upd_blk hB410 hu415 (by omega)
                      have hB424 := upd_blk hB411 hu415 (by omega)
                      have hB425 := upd_blk hB412 hu415 (by omega)
                      have ho426 := ho413.upd hu415 (⟨_, (hM403).blk, rfl⟩)
                      refine WL.nil (WE.sub (K' := [(0, .int .i64 (((n : Nat) : Int))), (1, .slice a l.length c), (2, .pointer (some ⟨g2, 0, none⟩)), (4, .slice none 0 0), (5, .pointer (some ⟨g20, 0, none⟩)), (7, .pointer (some ⟨g59, 0, none⟩)), (8, .pointer (some ⟨g83, 0, none⟩)), (10, .pointer (some ⟨g327, 0, none⟩)), (11, .int .i64 (((x.1 : Nat) : Int))), (12, .int .i64 (((x.2 : Nat) : Int))), (13, .slice ((slA ((some ⟨ob, 0, none⟩)) ((2 + 4 * x.1 + 2 * 0)) 1 ((2 + 4 * n)))) 2 (((2 + 4 * n) - (2 + 4 * x.1 + 2 * 0)))), (19, .bool (((decide ((((n : Nat) : Int) : Int) < (0 : Int))) || (decide ((96 : Int) < (((n : Nat) : Int) : Int)))))), (24, .slice a l.length c), (25, .int .i64 (((l.length : Nat) : Int))), (26, .int .i64 (((i : Nat) : Int))), (27, .bool ((decide ((((i : Nat) : Int) : Int) < (((l.length : Nat) : Int) : Int))))), (31, .bool ((lget l i).neg)), (42, .slice ((some ⟨g297, 0, none⟩)) 2 2), (43, .int .i64 2), (44, .int .i64 (((j : Nat) : Int))), (45, .bool ((decide ((((j : Nat) : Int) : Int) < (2 : Int))))), (56, .bool (((((tget [(lget l i).l, (lget l i).r] j).f : Int) == (0 : Int)) && (((((tget [(lget l i).l, (lget l i).r] j).args.length : Nat) : Int) : Int) == (0 : Int))))), (58, .func (.func 45) #[] #[.pointer (some ⟨gt, 0, none⟩)]), (63, .bool ((decide ((((n : Nat) : Int) : Int) ≤ (((x.1 : Nat) : Int) : Int)))))]) ⟨rfl, rfl, rfl, rfl, rfl, rfl, rfl, rfl, rfl, rfl, rfl, rfl, rfl, rfl, rfl, rfl, rfl, rfl, rfl, rfl, rfl, rfl, rfl, rfl, trivial⟩ ?_)
                      refine WE.blockNormal ?_
                      have hs427 : Chg ((fun b => b = ob)) w388 w414 := (Chg.trans2 (Chg.trans2 (Chg.refl ((fun b => b = ob)) _) (Chg.ofUpd (S := fun k => k = ob) hu402 rfl) (fun i h1 h2 => by first | exact h2 | exact .inl ⟨h2, h1⟩ | exact .inl h2 | exact .inr h2 | exact .inr (.inl h2) | exact .inr (.inr h2) | ((try dsimp only at *); omega))) (Chg.ofUpd (S := fun k => k = ob) hu415 rfl) (fun i h1 h2 => by first | exact h2 | exact .inl ⟨h2, h1⟩ | exact .inl h2 | exact .inr h2 | exact .inr (.inl h2) | exact .inr (.inr h2) | ((try dsimp only at *); omega)))
                      exact fun _ _ => ⟨((keepsFrom_upd hu402 (hMr).blk).trans (keepsFrom_upd hu415 (hM403).blk)), (Kpt.ofChg hs427), ⟨(IRow.congr hM416 (by rw [List.foldl_append]; show _ = put1 n 0 _ x; unfold put1; rw [if_pos (by omega)]; (try (rw [gset_ne (by omega)])))), (Nat.le_trans (Nat.le_trans hz398 (Nat.le_of_eq hu402.size.symm)) (Nat.le_of_eq hu415.size.symm)), hb418, hB419, hB420, hB421, hB422, hB423, hB424, hB425, ho426⟩⟩
                  · rintro D428 xs429 w430 hD431 hS432 ⟨hMr, hz442, hb434, hB435, hB436, hB437, hB438, hB439, hB440, hB441, hzm⟩ hw433
                    have hzm443 := Marks.cons hzm hw433 (by have z := hb374.size; omega) (fun D9 q => by have z := Marks.lt ho376 q; omega)
                    have hend : (xs429.foldl (put1 n 0) (inG n 0 (lget l i).l (lget l i).r (gset (outG n l i) 0 (outG n l i 0 + 1)) j)) = (inG n 0 (lget l i).l (lget l i).r (gset (outG n l i) 0 (outG n l i 0 + 1)) (j + 1)) := by rw [hS432, inG_succ hj2]; unfold sideP; rw [if_neg htt]
                    refine WE.blockNormal ?_
                    refine WE.blockNormal ?_
                    refine WE.next ?_
                    refine WC.region ?_
                    refine WL.val (.int .i64 ((((j + 1) : Nat) : Int))) rfl rfl rfl (fun za zC zh zk => addb_3 rfl (zh.ev rfl) (zh.ev rfl) (wrap_eq (by omega) (by omega) (by omega)) zk) ?_
                    refine WL.val (.int .i64 ((((j + 1) : Nat) : Int))) rfl rfl rfl (fun za zC zh zk => wp_move rfl (zh.ev rfl) zk) ?_
                    refine WL.nil (WE.sub (K' := [(0, .int .i64 (((n : Nat) : Int))), (1, .slice a l.length c), (2, .pointer (some ⟨g2, 0, none⟩)), (4, .slice none 0 0), (5, .pointer (some ⟨g20, 0, none⟩)), (7, .pointer (some ⟨g59, 0, none⟩)), (8, .pointer (some ⟨g83, 0, none⟩)), (10, .pointer (some ⟨g327, 0, none⟩)), (19, .bool (((decide ((((n : Nat) : Int) : Int) < (0 : Int))) || (decide ((96 : Int) < (((n : Nat) : Int) : Int)))))), (24, .slice a l.length c), (25, .int .i64 (((l.length : Nat) : Int))), (26, .int .i64 (((i : Nat) : Int))), (27, .bool ((decide ((((i : Nat) : Int) : Int) < (((l.length : Nat) : Int) : Int))))), (31, .bool ((lget l i).neg)), (42, .slice ((some ⟨g297, 0, none⟩)) 2 2), (43, .int .i64 2), (44, .int .i64 ((((j + 1) : Nat) : Int))), (45, .bool ((decide ((((j : Nat) : Int) : Int) < (2 : Int))))), (56, .bool (((((tget [(lget l i).l, (lget l i).r] j).f : Int) == (0 : Int)) && (((((tget [(lget l i).l, (lget l i).r] j).args.length : Nat) : Int) : Int) == (0 : Int))))), (58, .func (.func 45) #[] #[.pointer (some ⟨gt, 0, none⟩)])]) ⟨rfl, rfl, rfl, rfl, rfl, rfl, rfl, rfl, rfl, rfl, rfl, rfl, rfl, rfl, rfl, rfl, rfl, rfl, rfl, rfl, trivial⟩ ?_)
                    refine WE.roundD (j + 1) (D428 :: Dl310) rfl ⟨rfl, rfl, rfl, rfl, rfl, rfl, rfl, rfl, rfl, rfl, rfl, rfl, rfl, rfl, rfl, rfl, trivial⟩ ?_ ?_
                    · exact ⟨by omega, (by rw [inG_succ hj2]; exact sideP_nonneg hj0), (fun k hk => by rw [inG_succ hj2]; have z := sideP_ev (n := n) (way := 0) hk (tget [(lget l i).l, (lget l i).r] j) (inG n 0 (lget l i).l (lget l i).r (gset (outG n l i) 0 (outG n l i 0 + 1)) j); have z2 := hj1 k hk; omega), hb434, hB435, hB436, hB437, hB438, hB439, hzm443, (IRow.congr hMr hend)⟩
                    · omega
                  · rintro D444 zc445 pre446 w447 hD448 hS449 hI450 hw451
                    exact hI450.elim
            · have h325 : ¬ ((((j : Nat) : Int) : Int) < (2 : Int)) := by simpa using h325
              have hj2e : j = 2 := by omega
              refine WC.exit ?_
              refine WE.thenExit ?_
              refine WE.thenExit ?_
              refine WE.blockIs rfl ?_
              refine WE.blockNormal ?_
              refine WE.next ?_
              refine WC.region ?_
              refine WL.val (.int .i64 ((((i + 1) : Nat) : Int))) rfl rfl rfl (fun za zC zh zk => addb_3 rfl (zh.ev rfl) (zh.ev rfl) (wrap_eq (by omega) (by omega) (by omega)) zk) ?_
              refine WL.val (.int .i64 ((((i + 1) : Nat) : Int))) rfl rfl rfl (fun za zC zh zk => wp_move rfl (zh.ev rfl) zk) ?_
              refine WL.nil (WE.sub (K' := [(0, .int .i64 (((n : Nat) : Int))), (1, .slice a l.length c), (2, .pointer (some ⟨g2, 0, none⟩)), (4, .slice none 0 0), (5, .pointer (some ⟨g20, 0, none⟩)), (7, .pointer (some ⟨g59, 0, none⟩)), (8, .pointer (some ⟨g83, 0, none⟩)), (19, .bool (((decide ((((n : Nat) : Int) : Int) < (0 : Int))) || (decide ((96 : Int) < (((n : Nat) : Int) : Int)))))), (24, .slice a l.length c), (25, .int .i64 (((l.length : Nat) : Int))), (26, .int .i64 ((((i + 1) : Nat) : Int))), (27, .bool ((decide ((((i : Nat) : Int) : Int) < (((l.length : Nat) : Int) : Int))))), (31, .bool ((lget l i).neg)), (42, .slice ((some ⟨g297, 0, none⟩)) 2 2), (43, .int .i64 2), (44, .int .i64 (((j : Nat) : Int))), (45, .bool ((decide ((((j : Nat) : Int) : Int) < (2 : Int)))))]) ⟨rfl, rfl, rfl, rfl, rfl, rfl, rfl, rfl, rfl, rfl, rfl, rfl, rfl, rfl, rfl, rfl, rfl, trivial⟩ ?_)
              refine WE.roundD (i + 1) Dl310 rfl ⟨rfl, rfl, rfl, rfl, rfl, rfl, rfl, rfl, rfl, trivial⟩ ?_ ?_
              · exact ⟨by omega, (fun k hk => by rw [outG_succ (by omega), lit_out hway, ← hj2e]; have z := hj1 k hk; omega), hb317, hB318, hB319, ho323, (IRow.congr ho324 (by rw [outG_succ (by omega), lit_out hway, ← hj2e]))⟩
              · omega
      · have h49 : ¬ ((((i : Nat) : Int) : Int) < (((l.length : Nat) : Int) : Int)) := by simpa using h49
        refine WC.exit ?_
        refine WE.thenExit ?_
        refine WE.thenExit ?_
        refine WE.blockIs rfl ?_
        refine WE.next ?_
        refine WC.seq ?_
        refine WC.region ?_
        refine WL.val (.slice ((some ⟨ob, 0, none⟩)) ((2 + 4 * n)) ((2 + 4 * n))) rfl rfl rfl (fun za zC zh zk => ld_27 rfl (zh.ev rfl) ((hB46.cell 0).trans rfl) zk) ?_
        refine WL.val (.slice ((some ⟨ob, 0, none⟩)) ((2 + 4 * n)) ((2 + 4 * n))) rfl rfl rfl (fun za zC zh zk => wp_assign rfl (zh.ev rfl) zk) ?_
        refine WL.nil (WE.sub (K' := [(0, .int .i64 (((n : Nat) : Int))), (1, .slice a l.length c), (2, .pointer (some ⟨g2, 0, none⟩)), (4, .slice ((some ⟨ob, 0, none⟩)) ((2 + 4 * n)) ((2 + 4 * n))), (5, .pointer (some ⟨g20, 0, none⟩)), (19, .bool (((decide ((((n : Nat) : Int) : Int) < (0 : Int))) || (decide ((96 : Int) < (((n : Nat) : Int) : Int)))))), (24, .slice a l.length c), (25, .int .i64 (((l.length : Nat) : Int))), (26, .int .i64 (((i : Nat) : Int))), (27, .bool ((decide ((((i : Nat) : Int) : Int) < (((l.length : Nat) : Int) : Int)))))]) ⟨rfl, rfl, rfl, rfl, rfl, rfl, rfl, rfl, rfl, rfl, trivial⟩ ?_)
        refine WE.next ?_
        refine WC.ret ?_
        obtain ⟨w452, hs453, hc454, hk455⟩ := Marks.shut ho47
        have hb456 := chg_below hb44 hc454 (fun b hb q => by have z := Marks.base ho47 q; omega)
        refine WE.retS1 rfl rfl hs453 ?_
        refine ⟨_, rfl, ⟨ob, rfl, IRow.congr ⟨hk455 _ _ (ho48).blk rfl⟩ (outG_end (by omega)), hob9⟩, hb456⟩

end Go.Proofs.Ytnblndmjjokepaa
