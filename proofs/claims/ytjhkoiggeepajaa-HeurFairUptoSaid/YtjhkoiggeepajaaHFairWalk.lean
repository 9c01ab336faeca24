/- With a queue by age nobody waits for ever: the walk through the law HeurFair. -/
import Derived.Test.YtjhkoiggeepajaaFairM
import Derived.Test.YtjhkoiggeepajaaGenH
namespace Go.Proofs.Ytjhkoiggeepajaa
open Go.RowKit Go
set_option linter.unusedVariables false
set_option linter.unusedSimpArgs false

structure AcS where
  i : Nat
  n : Nat
  Z : Nat → Prop
  ws : List Wt
structure FtS where
  k : Nat
  met : Nat → Bool
  Z : Nat → Prop
  ws : List Wt
  at_ : Nat
  dn : Nat
def AG (A B : World → Prop) : List Value → World → Prop
  | [], w => A w
  | _, w => B w
theorem AG.below {A B : World → Prop} (hA : ∀ w w', Below w.heap.size w w' → A w → A w') (hB : ∀ w w', Below w.heap.size w w' → B w → B w') (vals : List Value) (w w' : World) (hb : Below w.heap.size w w') (h : AG A B vals w) : AG A B vals w' := by
  match vals, h with
  | [], h => exact hA _ _ hb h
  | _ :: _, h => exact hB _ _ hb h
set_option maxRecDepth 100000 in
theorem fair_bad (q : List Qu) (w : World) (qa : Option Addr) (qc : Nat) (hq : IsQs w q qa) (hqc : q.length ≤ qc) (k : Nat) (a : Option Addr) (c : Nat) (k2 : Nat) (a2 : Option Addr) (c2 : Nat) (hqs : qsOk q = false) : Calls Try.prog 4 #[.slice qa q.length qc, .slice a k c, .slice a2 k2 c2] w (Ret fun v' w' => v' = .bool true ∧ Below w.heap.size w w') := by
  refine Calls.walk (l := [.slice qa q.length qc, .slice a k c, .slice a2 k2 c2]) Try.func4 rfl (by kernel_rfl) ?_
  refine WC.sub (K' := [(0, .slice qa q.length qc), (1, .slice a k c), (2, .slice a2 k2 c2)]) ⟨rfl, rfl, rfl, trivial⟩ ?_
  refine WC.seq ?_
  refine WC.region ?_
  refine WL.val (.bool false) rfl rfl rfl (fun za zC zh zk => wp_assign rfl (zh.ev rfl) zk) ?_
  refine WL.nil (WE.sub (K' := [(0, .slice qa q.length qc), (1, .slice a k c), (2, .slice a2 k2 c2), (6, .bool false)]) ⟨rfl, rfl, rfl, rfl, trivial⟩ ?_)
  refine WE.next ?_
  refine WC.seq ?_
  refine WC.region ?_
  refine WL.val (.slice qa q.length qc) rfl rfl rfl (fun za zC zh zk => wp_move rfl (zh.ev rfl) zk) ?_
  refine WL.call rfl rfl rfl (fun za zh zC => wp_call (by kernel_rfl) rfl (hv1 (zh.ev rfl))) (new_bad hqs _ _ _ (hq.below (Below.refl _ _)) hqc) ?_
  rintro _ w2 ⟨rfl, hq1⟩
  refine WL.val (.tuple #[.pointer none, .int .i64 2]) rfl rfl rfl (fun za zC zh zk => wp_move rfl (zh.ev rfl) zk) ?_
  refine WL.val (.pointer none) rfl rfl rfl (fun za zC zh zk => ext2_0 rfl (zh.ev rfl) zk) ?_
  refine WL.val (.int .i64 2) rfl rfl rfl (fun za zC zh zk => ext2_1 rfl (zh.ev rfl) zk) ?_
  refine WL.val (.pointer none) rfl rfl rfl (fun za zC zh zk => wp_assign rfl (zh.ev rfl) zk) ?_
  refine WL.val (.int .i64 2) rfl rfl rfl (fun za zC zh zk => wp_assign rfl (zh.ev rfl) zk) ?_
  refine WL.nil (WE.sub (K' := [(0, .slice qa q.length qc), (1, .slice a k c), (2, .slice a2 k2 c2), (6, .bool false), (7, .pointer none), (8, .int .i64 2)]) ⟨rfl, rfl, rfl, rfl, rfl, rfl, trivial⟩ ?_)
  refine WE.next ?_
  refine WC.seq ?_
  refine WC.seq ?_
  refine WC.region ?_
  refine WL.val (.int .i64 2) rfl rfl rfl (fun za zC zh zk => wp_move rfl (zh.ev rfl) zk) ?_
  refine WL.val (.bool true) rfl rfl rfl (fun za zC zh zk => neq_34 rfl (zh.ev rfl) (zh.ev rfl) zk) ?_
  refine WL.val (.bool true) rfl rfl rfl (fun za zC zh zk => wp_move rfl (zh.ev rfl) zk) ?_
  refine WL.skip (d := 27) rfl rfl rfl rfl rfl ?_
  refine WL.skip (d := 27) rfl rfl rfl rfl rfl ?_
  refine WL.val (.bool true) rfl rfl rfl (fun za zC zh zk => wp_pickT rfl (zh.ev rfl) (zh.ev rfl) zk) ?_
  refine WL.nil (WE.sub (K' := [(0, .slice qa q.length qc), (1, .slice a k c), (2, .slice a2 k2 c2), (6, .bool false), (7, .pointer none), (8, .int .i64 2), (30, .bool true)]) ⟨rfl, rfl, rfl, rfl, rfl, rfl, rfl, trivial⟩ ?_)
  refine WE.next ?_
  refine WC.condT rfl rfl ?_
  refine WC.seq ?_
  refine WC.region ?_
  refine WL.val (.int .i64 2) rfl rfl rfl (fun za zC zh zk => wp_move rfl (zh.ev rfl) zk) ?_
  refine WL.val (.bool true) rfl rfl rfl (fun za zC zh zk => eql_34 rfl (zh.ev rfl) (zh.ev rfl) zk) ?_
  refine WL.val (.bool true) rfl rfl rfl (fun za zC zh zk => wp_move rfl (zh.ev rfl) zk) ?_
  refine WL.want (d := 33) rfl rfl rfl ?_
  refine WL.val (.pointer none) rfl rfl rfl (fun za zC zh zk => wp_move rfl (zh.ev rfl) zk) ?_
  refine WL.want (d := 33) rfl rfl rfl ?_
  refine WL.val (.bool true) rfl rfl rfl (fun za zC zh zk => eqln_33 rfl (zh.ev rfl) (zh.ev rfl) zk) ?_
  refine WL.val (.bool true) rfl rfl rfl (fun za zC zh zk => wp_pickT rfl (zh.ev rfl) (zh.ev rfl) zk) ?_
  refine WL.val (.bool true) rfl rfl rfl (fun za zC zh zk => wp_move rfl (zh.ev rfl) zk) ?_
  refine WL.want (d := 37) rfl rfl rfl ?_
  refine WL.call rfl rfl rfl (fun za zh zC => wp_call (by kernel_rfl) rfl (hv0)) (wakes_any _) ?_
  rintro _ w4 ⟨rfl, hq3⟩
  refine WL.val (.bool true) rfl rfl rfl (fun za zC zh zk => wp_pickT rfl (zh.ev rfl) (zh.ev rfl) zk) ?_
  refine WL.val (.bool true) rfl rfl rfl (fun za zC zh zk => wp_assign rfl (zh.ev rfl) zk) ?_
  refine WL.nil (WE.sub (K' := [(0, .slice qa q.length qc), (1, .slice a k c), (2, .slice a2 k2 c2), (6, .bool true), (7, .pointer none), (8, .int .i64 2), (30, .bool true)]) ⟨rfl, rfl, rfl, rfl, rfl, rfl, rfl, trivial⟩ ?_)
  refine WE.next ?_
  refine WC.ret ?_
  refine WE.thenRet ?_
  refine WE.ret1 rfl rfl ?_
  have hb5 : Below w.heap.size w w4 := (bstep hq1 hq3)
  exact ⟨_, rfl, rfl, hb5⟩

set_option maxRecDepth 100000 in
theorem fair_good (q : List Qu) (w : World) (qa : Option Addr) (qc : Nat) (hq : IsQs w q qa) (hqc : q.length ≤ qc) (l : List (List Li)) (a : Option Addr) (c : Nat) (hl : IsCls w l a) (hlz : l.length ≤ 1048576) (gs : List Bool) (a2 : Option Addr) (c2 : Nat) (hg : IsBs w gs a2) (hgz : gs.length ≤ 1048576) (hqs : qsOk q = true) : Calls Try.prog 4 #[.slice qa q.length qc, .slice a l.length c, .slice a2 gs.length c2] w (Ret fun v' w' => v' = .bool true ∧ Below w.heap.size w w') := by
  obtain ⟨cb, co, A, C, hca, hcc⟩ := hl
  obtain ⟨gb, go, hga, hgc⟩ := hg
  obtain ⟨hq1, hq8, hqk⟩ := qsOk_at hqs
  have htk := take_ok hqs
  have hall := sumT_bd htk (Nat.le_refl q.length)
  refine Calls.walk (l := [.slice qa q.length qc, .slice a l.length c, .slice a2 gs.length c2]) Try.func4 rfl (by kernel_rfl) ?_
  refine WC.sub (K' := [(0, .slice qa q.length qc), (1, .slice a l.length c), (2, .slice a2 gs.length c2)]) ⟨rfl, rfl, rfl, trivial⟩ ?_
  refine WC.seq ?_
  refine WC.region ?_
  refine WL.val (.bool false) rfl rfl rfl (fun za zC zh zk => wp_assign rfl (zh.ev rfl) zk) ?_
  refine WL.nil (WE.sub (K' := [(0, .slice qa q.length qc), (1, .slice a l.length c), (2, .slice a2 gs.length c2), (6, .bool false)]) ⟨rfl, rfl, rfl, rfl, trivial⟩ ?_)
  refine WE.next ?_
  refine WC.seq ?_
  refine WC.region ?_
  refine WL.val (.slice qa q.length qc) rfl rfl rfl (fun za zC zh zk => wp_move rfl (zh.ev rfl) zk) ?_
  have hn0 : w.heap.size ≤ w.heap.size := (Nat.le_refl _)
  refine WL.call rfl rfl rfl (fun za zh zC => wp_call (by kernel_rfl) rfl (hv1 (zh.ev rfl))) (new_ok hqs _ _ _ (hq.below (Below.refl _ _)) hqc) ?_
  rintro _ w1 ⟨⟨r, rfl, hR⟩, hbn⟩
  have hAS0 : AddS w w1 r q (fun b => w.heap.size ≤ b ∧ b < w1.heap.size) [] 0 := ⟨hR.mono (fun b u v => ⟨by omega, v⟩), fun b u => u, rfl, fun x hx => by simp at hx, fun x hx => by simp at hx, by have z9 := hbn.size; omega⟩
  refine WL.val (.tuple #[.pointer (some ⟨r, 0, none⟩), .int .i64 0]) rfl rfl rfl (fun za zC zh zk => wp_move rfl (zh.ev rfl) zk) ?_
  refine WL.val (.pointer (some ⟨r, 0, none⟩)) rfl rfl rfl (fun za zC zh zk => ext2_0 rfl (zh.ev rfl) zk) ?_
  refine WL.val (.int .i64 0) rfl rfl rfl (fun za zC zh zk => ext2_1 rfl (zh.ev rfl) zk) ?_
  refine WL.val (.pointer (some ⟨r, 0, none⟩)) rfl rfl rfl (fun za zC zh zk => wp_assign rfl (zh.ev rfl) zk) ?_
  refine WL.val (.int .i64 0) rfl rfl rfl (fun za zC zh zk => wp_assign rfl (zh.ev rfl) zk) ?_
  refine WL.nil (WE.sub (K' := [(0, .slice qa q.length qc), (1, .slice a l.length c), (2, .slice a2 gs.length c2), (6, .bool false), (7, .pointer (some ⟨r, 0, none⟩)), (8, .int .i64 0)]) ⟨rfl, rfl, rfl, rfl, rfl, rfl, trivial⟩ ?_)
  refine WE.next ?_
  refine WC.seq ?_
  refine WC.seq ?_
  refine WC.region ?_
  refine WL.val (.int .i64 0) rfl rfl rfl (fun za zC zh zk => wp_move rfl (zh.ev rfl) zk) ?_
  refine WL.val (.bool false) rfl rfl rfl (fun za zC zh zk => neq_34 rfl (zh.ev rfl) (zh.ev rfl) zk) ?_
  refine WL.val (.bool false) rfl rfl rfl (fun za zC zh zk => wp_move rfl (zh.ev rfl) zk) ?_
  refine WL.want (d := 27) rfl rfl rfl ?_
  refine WL.val (.pointer (some ⟨r, 0, none⟩)) rfl rfl rfl (fun za zC zh zk => wp_move rfl (zh.ev rfl) zk) ?_
  refine WL.want (d := 27) rfl rfl rfl ?_
  refine WL.val (.bool false) rfl rfl rfl (fun za zC zh zk => eqlp_33 rfl (zh.ev rfl) (zh.ev rfl) zk) ?_
  refine WL.val (.bool false) rfl rfl rfl (fun za zC zh zk => wp_pickF rfl (zh.ev rfl) (zh.ev rfl) zk) ?_
  refine WL.nil (WE.sub (K' := [(0, .slice qa q.length qc), (1, .slice a l.length c), (2, .slice a2 gs.length c2), (6, .bool false), (7, .pointer (some ⟨r, 0, none⟩)), (8, .int .i64 0), (30, .bool false)]) ⟨rfl, rfl, rfl, rfl, rfl, rfl, rfl, trivial⟩ ?_)
  refine WE.next ?_
  refine WC.condF rfl rfl ?_
  refine WC.skip ?_
  refine WE.next ?_
  refine WC.seq ?_
  refine WC.region ?_
  refine WL.val (.int .i64 0) rfl rfl rfl (fun za zC zh zk => wp_assign rfl (zh.ev rfl) zk) ?_
  refine WL.val (.bool false) rfl rfl rfl (fun za zC zh zk => wp_assign rfl (zh.ev rfl) zk) ?_
  refine WL.nil (WE.sub (K' := [(0, .slice qa q.length qc), (1, .slice a l.length c), (2, .slice a2 gs.length c2), (6, .bool false), (7, .pointer (some ⟨r, 0, none⟩)), (8, .int .i64 0), (9, .int .i64 0), (10, .bool false), (30, .bool false)]) ⟨rfl, rfl, rfl, rfl, rfl, rfl, rfl, rfl, rfl, trivial⟩ ?_)
  refine WE.next ?_
  refine WC.seq ?_
  refine WC.seq ?_
  refine WC.region ?_
  refine WL.val (.slice qa q.length qc) rfl rfl rfl (fun za zC zh zk => wp_move rfl (zh.ev rfl) zk) ?_
  refine WL.val (.int .i64 (((q.length : Nat) : Int))) rfl rfl rfl (fun za zC zh zk => len_30 rfl (zh.ev rfl) zk) ?_
  refine WL.val (.int .i64 0) rfl rfl rfl (fun za zC zh zk => wp_move rfl (zh.ev rfl) zk) ?_
  refine WL.nil (WE.sub (K' := [(0, .slice qa q.length qc), (1, .slice a l.length c), (2, .slice a2 gs.length c2), (6, .bool false), (7, .pointer (some ⟨r, 0, none⟩)), (8, .int .i64 0), (9, .int .i64 0), (10, .bool false), (30, .bool false), (41, .int .i64 (((q.length : Nat) : Int))), (42, .int .i64 0)]) ⟨rfl, rfl, rfl, rfl, rfl, rfl, rfl, rfl, rfl, rfl, rfl, trivial⟩ ?_)
  refine WE.next ?_
  refine WC.block ?_
  refine WC.loop (X := Nat) (fun x => q.length - x) (fun x => [(0, .slice qa q.length qc), (1, .slice a l.length c), (2, .slice a2 gs.length c2), (6, .bool false), (7, .pointer (some ⟨r, 0, none⟩)), (8, .int .i64 0), (9, .int .i64 ((sumT q x))), (10, .bool ((ageP q x))), (30, .bool false), (41, .int .i64 (((q.length : Nat) : Int))), (42, .int .i64 (((x : Nat) : Int)))]) (fun x w2 => x ≤ q.length ∧ Below w.heap.size w w2 ∧ Below w1.heap.size w1 w2) 0 ⟨rfl, rfl, rfl, rfl, rfl, rfl, rfl, rfl, rfl, rfl, rfl, trivial⟩ ?_ ?_
  · exact ⟨Nat.zero_le _, hbn, (Below.refl _ _)⟩
  · rintro x w2 ⟨hx, hb3, hb4⟩
    refine WC.seq ?_
    refine WC.region ?_
    refine WL.val (.bool ((decide ((((x : Nat) : Int) : Int) < (((q.length : Nat) : Int) : Int))))) rfl rfl rfl (fun za zC zh zk => lss_3 rfl (zh.ev rfl) (zh.ev rfl) zk) ?_
    refine WL.nil (WE.sub (K' := [(0, .slice qa q.length qc), (1, .slice a l.length c), (2, .slice a2 gs.length c2), (6, .bool false), (7, .pointer (some ⟨r, 0, none⟩)), (8, .int .i64 0), (9, .int .i64 ((sumT q x))), (10, .bool ((ageP q x))), (30, .bool false), (41, .int .i64 (((q.length : Nat) : Int))), (42, .int .i64 (((x : Nat) : Int))), (43, .bool ((decide ((((x : Nat) : Int) : Int) < (((q.length : Nat) : Int) : Int)))))]) ⟨rfl, rfl, rfl, rfl, rfl, rfl, rfl, rfl, rfl, rfl, rfl, rfl, trivial⟩ ?_)
    refine WE.next ?_
    refine WC.seq ?_
    refine WC.cond rfl (fun h5 => ?_) (fun h5 => ?_)
    · have h5 : (((x : Nat) : Int) : Int) < (((q.length : Nat) : Int) : Int) := by simpa using h5
      refine WC.skip ?_
      refine WE.next ?_
      refine WC.seq ?_
      refine WC.block ?_
      refine WC.seq ?_
      refine WC.region ?_
      refine WL.val (.int .i64 (((x : Nat) : Int))) rfl rfl rfl (fun za zC zh zk => wp_move rfl (zh.ev rfl) zk) ?_
      refine WL.val (.int .i64 (((x : Nat) : Int))) rfl rfl rfl (fun za zC zh zk => wp_assign rfl (zh.ev rfl) zk) ?_
      refine WL.nil (WE.sub (K' := [(0, .slice qa q.length qc), (1, .slice a l.length c), (2, .slice a2 gs.length c2), (6, .bool false), (7, .pointer (some ⟨r, 0, none⟩)), (8, .int .i64 0), (9, .int .i64 ((sumT q x))), (10, .bool ((ageP q x))), (11, .int .i64 (((x : Nat) : Int))), (30, .bool false), (41, .int .i64 (((q.length : Nat) : Int))), (42, .int .i64 (((x : Nat) : Int))), (43, .bool ((decide ((((x : Nat) : Int) : Int) < (((q.length : Nat) : Int) : Int)))))]) ⟨rfl, rfl, rfl, rfl, rfl, rfl, rfl, rfl, rfl, rfl, rfl, rfl, rfl, trivial⟩ ?_)
      refine WE.next ?_
      refine WC.seq ?_
      refine WC.region ?_
      refine WL.val (.int .i64 ((sumT q x))) rfl rfl rfl (fun za zC zh zk => wp_move rfl (zh.ev rfl) zk) ?_
      refine WL.val (.slice qa q.length qc) rfl rfl rfl (fun za zC zh zk => wp_move rfl (zh.ev rfl) zk) ?_
      refine WL.val (.int .i64 (((x : Nat) : Int))) rfl rfl rfl (fun za zC zh zk => wp_move rfl (zh.ev rfl) zk) ?_
      obtain ⟨b6, o7, ha8, hc9⟩ := hq
      refine WL.val (.pointer (some ⟨b6, o7 + x * 2, none⟩)) rfl rfl rfl (fun za zC zh zk => ix_30 (k := x) rfl (zh.ev rfl) (ha8 x (by first | omega | (simp; omega))) (zh.ev rfl) (by first | omega | (simp; omega)) zk) ?_
      refine WL.val (.pointer (some ⟨b6, o7 + x * 2 + 1, none⟩)) rfl rfl rfl (fun za zC zh zk => fld_38_1 rfl (zh.ev rfl) zk) ?_
      refine WL.val (.int .i64 ((qget q x).take)) rfl rfl rfl (fun za zC zh zk => ld_3 rfl (zh.ev rfl) (bkeeps hb3 _ _ (hc9 x (by first | omega | (simp; omega))).2) zk) ?_
      refine WL.val (.int .i64 ((sumT q (x + 1)))) rfl rfl rfl (fun za zC zh zk => addb_3 rfl (zh.ev rfl) (zh.ev rfl) (wrap_eq (r := sumT q (x + 1)) rfl (by have z9 := sumT_bd htk (i := x + 1) (by omega); omega) (by have z9 := sumT_bd htk (i := x + 1) (by omega); omega)) zk) ?_
      refine WL.val (.int .i64 ((sumT q (x + 1)))) rfl rfl rfl (fun za zC zh zk => wp_assign rfl (zh.ev rfl) zk) ?_
      refine WL.nil (WE.sub (K' := [(0, .slice qa q.length qc), (1, .slice a l.length c), (2, .slice a2 gs.length c2), (6, .bool false), (7, .pointer (some ⟨r, 0, none⟩)), (8, .int .i64 0), (9, .int .i64 ((sumT q (x + 1)))), (10, .bool ((ageP q x))), (11, .int .i64 (((x : Nat) : Int))), (30, .bool false), (41, .int .i64 (((q.length : Nat) : Int))), (42, .int .i64 (((x : Nat) : Int))), (43, .bool ((decide ((((x : Nat) : Int) : Int) < (((q.length : Nat) : Int) : Int)))))]) ⟨rfl, rfl, rfl, rfl, rfl, rfl, rfl, rfl, rfl, rfl, rfl, rfl, rfl, trivial⟩ ?_)
      refine WE.next ?_
      refine WC.seqV (S := ((fun b => b < 0))) [(true, .val (.bool ((ageP q x)))), (true, .val (.bool ((ageP q x)))), ((true && !(ageP q x)), .val (.slice qa q.length qc)), ((true && !(ageP q x)), .val (.int .i64 (((x : Nat) : Int)))), ((true && !(ageP q x)), .val (.pointer (some ⟨b6, o7 + x * 2, none⟩))), ((true && !(ageP q x)), .val (.pointer (some ⟨b6, o7 + x * 2, none⟩))), ((true && !(ageP q x)), .val (.int .i64 ((qget q x).by_))), ((true && !(ageP q x)), .val (.bool ((((qget q x).by_ : Int) == (0 : Int))))), (true, .val (.bool (((ageP q x) || (((qget q x).by_ : Int) == (0 : Int)))))), (true, .val undef)] [(0, .slice qa q.length qc), (1, .slice a l.length c), (2, .slice a2 gs.length c2), (6, .bool false), (7, .pointer (some ⟨r, 0, none⟩)), (8, .int .i64 0), (9, .int .i64 ((sumT q (x + 1)))), (11, .int .i64 (((x : Nat) : Int))), (30, .bool false), (41, .int .i64 (((q.length : Nat) : Int))), (42, .int .i64 (((x : Nat) : Int))), (43, .bool ((decide ((((x : Nat) : Int) : Int) < (((q.length : Nat) : Int) : Int)))))] [9] [some (true, .bool ((ageP q (x + 1))))] (fun _ _ => True) ((fun _ _ _ _ _ => trivial)) (by decide) ⟨rfl, rfl, rfl, rfl, rfl, rfl, rfl, rfl, rfl, rfl, rfl, rfl, trivial⟩ (by kernel_rfl) (by kernel_rfl) (by kernel_rfl) (by kernel_rfl) trivial ?_ ?_
      · refine ⟨.inl ⟨rfl, true, .none rfl, (fun gg b h => by cases h), fun h w => optUndef h, fun zβ za zw zc => ?_⟩, ?_⟩
        · exact wp_move rfl ((show za.eval (.tmp 10) = za.tmps.getD 10 undef from rfl).trans (zc.old 10 _ rfl (by kernel_rfl))) ⟨_, rfl, Below.refl _ _, optDef zβ rfl⟩
        refine ⟨.inl ⟨rfl, true, .none rfl, (fun gg b h => by cases h), fun h w => optUndef h, fun zβ za zw zc => ?_⟩, ?_⟩
        · exact wp_move rfl ((show za.eval (.tmp 52) = za.tmps.getD 52 undef from rfl).trans (optSVal (zc.dep 0 52 (by kernel_rfl) (by decide)) rfl rfl)) ⟨_, rfl, Below.refl _ _, optDef zβ rfl⟩
        refine ⟨.inl ⟨rfl, (true && !(ageP q x)), .no (c := (ageP q x)) (d := true) rfl (fun v w h => h), (fun gg b h => by cases h; rfl), fun h w => optUndef h, fun zβ za zw zc => ?_⟩, ?_⟩
        · exact wp_move rfl (zc.kn.ev rfl) ⟨_, rfl, Below.refl _ _, optDef zβ rfl⟩
        refine ⟨.inl ⟨rfl, (true && !(ageP q x)), .no (c := (ageP q x)) (d := true) rfl (fun v w h => h), (fun gg b h => by cases h; rfl), fun h w => optUndef h, fun zβ za zw zc => ?_⟩, ?_⟩
        · exact wp_move rfl (zc.kn.ev rfl) ⟨_, rfl, Below.refl _ _, optDef zβ rfl⟩
        refine ⟨.inl ⟨rfl, (true && !(ageP q x)), .no (c := (ageP q x)) (d := true) rfl (fun v w h => h), (fun gg b h => by cases h; rfl), fun h w => optUndef h, fun zβ za zw zc => ?_⟩, ?_⟩
        · exact ix_30 (k := x) rfl ((show za.eval (.tmp 54) = za.tmps.getD 54 undef from rfl).trans (optSVal (zc.dep 2 54 (by kernel_rfl) (by decide)) rfl zβ)) (ha8 x (by first | omega | (have zz := zβ; simp only [Bool.and_eq_true, Bool.or_eq_true, Bool.true_and, Bool.not_eq_true', Bool.or_eq_false_iff, Bool.and_eq_false_iff, beq_eq_false_iff_ne, ne_eq, beq_iff_eq, decide_eq_true_eq, decide_eq_false_iff_not, bne_iff_ne] at zz; omega))) ((show za.eval (.tmp 55) = za.tmps.getD 55 undef from rfl).trans (optSVal (zc.dep 3 55 (by kernel_rfl) (by decide)) rfl zβ)) (by first | omega | (have zz := zβ; simp only [Bool.and_eq_true, Bool.or_eq_true, Bool.true_and, Bool.not_eq_true', Bool.or_eq_false_iff, Bool.and_eq_false_iff, beq_eq_false_iff_ne, ne_eq, beq_iff_eq, decide_eq_true_eq, decide_eq_false_iff_not, bne_iff_ne] at zz; omega)) ⟨_, rfl, Below.refl _ _, optDef zβ rfl⟩
        refine ⟨.inl ⟨rfl, (true && !(ageP q x)), .no (c := (ageP q x)) (d := true) rfl (fun v w h => h), (fun gg b h => by cases h; rfl), fun h w => optUndef h, fun zβ za zw zc => ?_⟩, ?_⟩
        · exact fld_38_0 rfl ((show za.eval (.tmp 56) = za.tmps.getD 56 undef from rfl).trans (optSVal (zc.dep 4 56 (by kernel_rfl) (by decide)) rfl zβ)) ⟨_, rfl, Below.refl _ _, optDef zβ rfl⟩
        refine ⟨.inl ⟨rfl, (true && !(ageP q x)), .no (c := (ageP q x)) (d := true) rfl (fun v w h => h), (fun gg b h => by cases h; rfl), fun h w => optUndef h, fun zβ za zw zc => ?_⟩, ?_⟩
        · exact ld_22 rfl ((show za.eval (.tmp 57) = za.tmps.getD 57 undef from rfl).trans (optSVal (zc.dep 5 57 (by kernel_rfl) (by decide)) rfl zβ)) (bkeeps (bstep hb3 (Chg.toBelow zc.chg)) _ _ (hc9 x (by first | omega | (have zz := zβ; simp only [Bool.and_eq_true, Bool.or_eq_true, Bool.true_and, Bool.not_eq_true', Bool.or_eq_false_iff, Bool.and_eq_false_iff, beq_eq_false_iff_ne, ne_eq, beq_iff_eq, decide_eq_true_eq, decide_eq_false_iff_not, bne_iff_ne] at zz; omega))).1) ⟨_, rfl, Below.refl _ _, optDef zβ rfl⟩
        refine ⟨.inl ⟨rfl, (true && !(ageP q x)), .no (c := (ageP q x)) (d := true) rfl (fun v w h => h), (fun gg b h => by cases h; rfl), fun h w => optUndef h, fun zβ za zw zc => ?_⟩, ?_⟩
        · exact eql_22 rfl ((show za.eval (.tmp 58) = za.tmps.getD 58 undef from rfl).trans (optSVal (zc.dep 6 58 (by kernel_rfl) (by decide)) rfl zβ)) (zc.kn.ev rfl) ⟨_, rfl, Below.refl _ _, optDef zβ rfl⟩
        refine ⟨.inl ⟨rfl, true, .none rfl, (fun gg b h => by cases h), fun h w => optUndef h, fun zβ za zw zc => ?_⟩, ?_⟩
        · exact wp_or rfl ((show za.eval (.tmp 53) = za.tmps.getD 53 undef from rfl).trans (optSVal (zc.dep 1 53 (by kernel_rfl) (by decide)) rfl rfl)) (fun hp => ((show za.eval (.tmp 59) = za.tmps.getD 59 undef from rfl).trans (optSVal (zc.dep 7 59 (by kernel_rfl) (by decide)) rfl (bMkN zβ hp)))) ⟨_, rfl, Below.refl _ _, optDef zβ rfl⟩
        refine ⟨.inr ⟨0, rfl, by kernel_rfl, true, .none rfl, (fun gg b h => by cases h), (fun h => (nomatch h)), fun zβ za zw zvals zc => ?_⟩, ?_⟩
        · obtain rfl := vlen0 zc.len
          have zn := zc.now
          exact wp_assign rfl (((show za.eval (.tmp 60) = za.tmps.getD 60 undef from rfl).trans (optSVal (zc.dep 8 60 (by kernel_rfl) (by decide)) rfl rfl))) ⟨_, rfl, .ofBelow (Below.refl _ _), trivial, cvIs rfl⟩
        exact trivial
      · intro za w10 zvals zh zl hG11 hc12 zu zw zk
        obtain ⟨z0, rfl⟩ := vlen1 zl
        have zh := zh.cons (d := 10) (v := .bool ((ageP q (x + 1)))) (zk 0 9 10 _ _ rfl (by kernel_rfl) rfl rfl)
        have hb13 := Chg.toBelow hc12
        clear zu zw zk
        refine (show WE _ [(0, .slice qa q.length qc), (1, .slice a l.length c), (2, .slice a2 gs.length c2), (6, .bool false), (7, .pointer (some ⟨r, 0, none⟩)), (8, .int .i64 0), (9, .int .i64 ((sumT q (x + 1)))), (10, .bool ((ageP q (x + 1)))), (11, .int .i64 (((x : Nat) : Int))), (30, .bool false), (41, .int .i64 (((q.length : Nat) : Int))), (42, .int .i64 (((x : Nat) : Int))), (43, .bool ((decide ((((x : Nat) : Int) : Int) < (((q.length : Nat) : Int) : Int)))))] w10 _ .normal from ?_) za (zh.sub ⟨rfl, rfl, rfl, rfl, rfl, rfl, rfl, rfl, rfl, rfl, rfl, rfl, rfl, trivial⟩)
        refine WE.blockNormal ?_
        refine WE.next ?_
        refine WC.region ?_
        refine WL.val (.int .i64 ((((x + 1) : Nat) : Int))) rfl rfl rfl (fun za zC zh zk => addb_3 rfl (zh.ev rfl) (zh.ev rfl) (wrap_eq (by omega) (by omega) (by omega)) zk) ?_
        refine WL.val (.int .i64 ((((x + 1) : Nat) : Int))) rfl rfl rfl (fun za zC zh zk => wp_move rfl (zh.ev rfl) zk) ?_
        refine WL.nil (WE.sub (K' := [(0, .slice qa q.length qc), (1, .slice a l.length c), (2, .slice a2 gs.length c2), (6, .bool false), (7, .pointer (some ⟨r, 0, none⟩)), (8, .int .i64 0), (9, .int .i64 ((sumT q (x + 1)))), (10, .bool ((ageP q (x + 1)))), (11, .int .i64 (((x : Nat) : Int))), (30, .bool false), (41, .int .i64 (((q.length : Nat) : Int))), (42, .int .i64 ((((x + 1) : Nat) : Int))), (43, .bool ((decide ((((x : Nat) : Int) : Int) < (((q.length : Nat) : Int) : Int)))))]) ⟨rfl, rfl, rfl, rfl, rfl, rfl, rfl, rfl, rfl, rfl, rfl, rfl, rfl, trivial⟩ ?_)
        refine WE.round (x + 1) ⟨rfl, rfl, rfl, rfl, rfl, rfl, rfl, rfl, rfl, rfl, rfl, trivial⟩ ?_ ?_
        · have hb14 : Below w.heap.size w w10 := (bstep hb3 hb13)
          have hb15 : Below w1.heap.size w1 w10 := (bstep hb4 hb13)
          exact ⟨by omega, hb14, hb15⟩
        · omega
    · have h5 : ¬ ((((x : Nat) : Int) : Int) < (((q.length : Nat) : Int) : Int)) := by simpa using h5
      refine WC.exit ?_
      refine WE.thenExit ?_
      refine WE.thenExit ?_
      refine WE.blockIs rfl ?_
      refine WE.next ?_
      refine WC.seq ?_
      refine WC.region ?_
      refine WL.val (.int .i64 0) rfl rfl rfl (fun za zC zh zk => wp_assign rfl (zh.ev rfl) zk) ?_
      refine WL.nil (WE.sub (K' := [(0, .slice qa q.length qc), (1, .slice a l.length c), (2, .slice a2 gs.length c2), (6, .bool false), (7, .pointer (some ⟨r, 0, none⟩)), (8, .int .i64 0), (9, .int .i64 ((sumT q x))), (10, .bool ((ageP q x))), (12, .int .i64 0), (30, .bool false), (41, .int .i64 (((q.length : Nat) : Int))), (42, .int .i64 (((x : Nat) : Int))), (43, .bool ((decide ((((x : Nat) : Int) : Int) < (((q.length : Nat) : Int) : Int)))))]) ⟨rfl, rfl, rfl, rfl, rfl, rfl, rfl, rfl, rfl, rfl, rfl, rfl, rfl, trivial⟩ ?_)
      refine WE.next ?_
      refine WC.seq ?_
      refine WC.seq ?_
      refine WC.region ?_
      refine WL.val (.slice a l.length c) rfl rfl rfl (fun za zC zh zk => wp_move rfl (zh.ev rfl) zk) ?_
      refine WL.val (.int .i64 (((l.length : Nat) : Int))) rfl rfl rfl (fun za zC zh zk => len_31 rfl (zh.ev rfl) zk) ?_
      refine WL.val (.int .i64 0) rfl rfl rfl (fun za zC zh zk => wp_move rfl (zh.ev rfl) zk) ?_
      refine WL.nil (WE.sub (K' := [(0, .slice qa q.length qc), (1, .slice a l.length c), (2, .slice a2 gs.length c2), (6, .bool false), (7, .pointer (some ⟨r, 0, none⟩)), (8, .int .i64 0), (9, .int .i64 ((sumT q x))), (10, .bool ((ageP q x))), (12, .int .i64 0), (30, .bool false), (41, .int .i64 (((q.length : Nat) : Int))), (42, .int .i64 (((x : Nat) : Int))), (43, .bool ((decide ((((x : Nat) : Int) : Int) < (((q.length : Nat) : Int) : Int))))), (63, .int .i64 (((l.length : Nat) : Int))), (64, .int .i64 0)]) ⟨rfl, rfl, rfl, rfl, rfl, rfl, rfl, rfl, rfl, rfl, rfl, rfl, rfl, rfl, rfl, trivial⟩ ?_)
      refine WE.next ?_
      refine WC.block ?_
      obtain rfl : x = q.length := by omega
      refine WC.loop (X := AcS) (fun y => l.length - y.i) (fun y => [(0, .slice qa q.length qc), (1, .slice a l.length c), (2, .slice a2 gs.length c2), (7, .pointer (some ⟨r, 0, none⟩)), (8, .int .i64 0), (9, .int .i64 ((sumT q q.length))), (10, .bool ((ageP q q.length))), (12, .int .i64 (((y.n : Nat) : Int))), (30, .bool false), (41, .int .i64 (((q.length : Nat) : Int))), (42, .int .i64 (((q.length : Nat) : Int))), (43, .bool ((decide ((((q.length : Nat) : Int) : Int) < (((q.length : Nat) : Int) : Int))))), (63, .int .i64 (((l.length : Nat) : Int))), (64, .int .i64 (((y.i : Nat) : Int)))]) (fun y w16 => y.i ≤ l.length ∧ y.n ≤ 60 ∧ AddS w (w16) r q y.Z y.ws y.n ∧ Below w.heap.size w w16) (⟨0, 0, (fun b => w.heap.size ≤ b ∧ b < w1.heap.size), []⟩) ⟨rfl, rfl, rfl, rfl, rfl, rfl, rfl, rfl, rfl, rfl, rfl, rfl, rfl, rfl, trivial⟩ ?_ ?_
      · exact ⟨Nat.zero_le _, Nat.zero_le _, hAS0.below hb4, hb3⟩
      · rintro y w16 ⟨hyi, hyn, hAS, hb17⟩
        refine WC.seq ?_
        refine WC.region ?_
        refine WL.val (.bool ((decide ((((y.i : Nat) : Int) : Int) < (((l.length : Nat) : Int) : Int))))) rfl rfl rfl (fun za zC zh zk => lss_3 rfl (zh.ev rfl) (zh.ev rfl) zk) ?_
        refine WL.nil (WE.sub (K' := [(0, .slice qa q.length qc), (1, .slice a l.length c), (2, .slice a2 gs.length c2), (7, .pointer (some ⟨r, 0, none⟩)), (8, .int .i64 0), (9, .int .i64 ((sumT q q.length))), (10, .bool ((ageP q q.length))), (12, .int .i64 (((y.n : Nat) : Int))), (30, .bool false), (41, .int .i64 (((q.length : Nat) : Int))), (42, .int .i64 (((q.length : Nat) : Int))), (43, .bool ((decide ((((q.length : Nat) : Int) : Int) < (((q.length : Nat) : Int) : Int))))), (63, .int .i64 (((l.length : Nat) : Int))), (64, .int .i64 (((y.i : Nat) : Int))), (65, .bool ((decide ((((y.i : Nat) : Int) : Int) < (((l.length : Nat) : Int) : Int)))))]) ⟨rfl, rfl, rfl, rfl, rfl, rfl, rfl, rfl, rfl, rfl, rfl, rfl, rfl, rfl, rfl, trivial⟩ ?_)
        refine WE.next ?_
        refine WC.seq ?_
        refine WC.cond rfl (fun h18 => ?_) (fun h18 => ?_)
        · have h18 : (((y.i : Nat) : Int) : Int) < (((l.length : Nat) : Int) : Int) := by simpa using h18
          refine WC.skip ?_
          refine WE.next ?_
          refine WC.seq ?_
          refine WC.block ?_
          refine WC.seq ?_
          refine WC.region ?_
          refine WL.val (.int .i64 (((y.i : Nat) : Int))) rfl rfl rfl (fun za zC zh zk => wp_move rfl (zh.ev rfl) zk) ?_
          refine WL.val (.int .i64 (((y.i : Nat) : Int))) rfl rfl rfl (fun za zC zh zk => wp_assign rfl (zh.ev rfl) zk) ?_
          refine WL.nil (WE.sub (K' := [(0, .slice qa q.length qc), (1, .slice a l.length c), (2, .slice a2 gs.length c2), (7, .pointer (some ⟨r, 0, none⟩)), (8, .int .i64 0), (9, .int .i64 ((sumT q q.length))), (10, .bool ((ageP q q.length))), (12, .int .i64 (((y.n : Nat) : Int))), (13, .int .i64 (((y.i : Nat) : Int))), (30, .bool false), (41, .int .i64 (((q.length : Nat) : Int))), (42, .int .i64 (((q.length : Nat) : Int))), (43, .bool ((decide ((((q.length : Nat) : Int) : Int) < (((q.length : Nat) : Int) : Int))))), (63, .int .i64 (((l.length : Nat) : Int))), (64, .int .i64 (((y.i : Nat) : Int))), (65, .bool ((decide ((((y.i : Nat) : Int) : Int) < (((l.length : Nat) : Int) : Int)))))]) ⟨rfl, rfl, rfl, rfl, rfl, rfl, rfl, rfl, rfl, rfl, rfl, rfl, rfl, rfl, rfl, rfl, trivial⟩ ?_)
          refine WE.next ?_
          refine WC.seq ?_
          refine WC.seq ?_
          refine WC.opt [(true, .val (.slice a l.length c)), (true, .val (.int .i64 (((y.i : Nat) : Int)))), (true, .val (.pointer (some ⟨cb, co + y.i, none⟩))), (true, .val (.slice ((A y.i)) ((cget l y.i).length) ((C y.i)))), (true, .val (.bool ((decide ((40 : Int) < ((cget l y.i).length : Int)) || decide ((1000 : Int) < (clSize (cget l y.i) : Int)))))), (true, .val (.bool ((decide ((40 : Int) < ((cget l y.i).length : Int)) || decide ((1000 : Int) < (clSize (cget l y.i) : Int)))))), ((true && !(decide ((40 : Int) < ((cget l y.i).length : Int)) || decide ((1000 : Int) < (clSize (cget l y.i) : Int)))), .val (.int .i64 (((y.n : Nat) : Int)))), ((true && !(decide ((40 : Int) < ((cget l y.i).length : Int)) || decide ((1000 : Int) < (clSize (cget l y.i) : Int)))), .val (.bool ((decide ((60 : Int) ≤ (((y.n : Nat) : Int) : Int)))))), (true, .val (.bool (((decide ((40 : Int) < ((cget l y.i).length : Int)) || decide ((1000 : Int) < (clSize (cget l y.i) : Int))) || (decide ((60 : Int) ≤ (((y.n : Nat) : Int) : Int)))))))] [(0, .slice qa q.length qc), (1, .slice a l.length c), (2, .slice a2 gs.length c2), (7, .pointer (some ⟨r, 0, none⟩)), (8, .int .i64 0), (9, .int .i64 ((sumT q q.length))), (10, .bool ((ageP q q.length))), (12, .int .i64 (((y.n : Nat) : Int))), (13, .int .i64 (((y.i : Nat) : Int))), (30, .bool false), (41, .int .i64 (((q.length : Nat) : Int))), (42, .int .i64 (((q.length : Nat) : Int))), (43, .bool ((decide ((((q.length : Nat) : Int) : Int) < (((q.length : Nat) : Int) : Int))))), (63, .int .i64 (((l.length : Nat) : Int))), (64, .int .i64 (((y.i : Nat) : Int))), (65, .bool ((decide ((((y.i : Nat) : Int) : Int) < (((l.length : Nat) : Int) : Int)))))] ⟨rfl, rfl, rfl, rfl, rfl, rfl, rfl, rfl, rfl, rfl, rfl, rfl, rfl, rfl, rfl, rfl, trivial⟩ (by kernel_rfl) (by kernel_rfl) (by kernel_rfl) ?_ ?_
          · refine ⟨⟨true, .none rfl, fun h w => optUndef h, fun zβ za zw zc => ?_⟩, ?_⟩
            · exact wp_move rfl (zc.kn.ev rfl) ⟨_, rfl, Below.refl _ _, optDef zβ rfl⟩
            refine ⟨⟨true, .none rfl, fun h w => optUndef h, fun zβ za zw zc => ?_⟩, ?_⟩
            · exact wp_move rfl (zc.kn.ev rfl) ⟨_, rfl, Below.refl _ _, optDef zβ rfl⟩
            refine ⟨⟨true, .none rfl, fun h w => optUndef h, fun zβ za zw zc => ?_⟩, ?_⟩
            · exact ix_31 (k := y.i) rfl ((show za.eval (.tmp 67) = za.tmps.getD 67 undef from rfl).trans (optVal (zc.dep 0 67 (by kernel_rfl)) rfl rfl)) (hca y.i (by first | omega | (simp; omega))) ((show za.eval (.tmp 68) = za.tmps.getD 68 undef from rfl).trans (optVal (zc.dep 1 68 (by kernel_rfl)) rfl rfl)) (by first | omega | (simp; omega)) ⟨_, rfl, Below.refl _ _, optDef zβ rfl⟩
            refine ⟨⟨true, .none rfl, fun h w => optUndef h, fun zβ za zw zc => ?_⟩, ?_⟩
            · exact ld_24 rfl ((show za.eval (.tmp 69) = za.tmps.getD 69 undef from rfl).trans (optVal (zc.dep 2 69 (by kernel_rfl)) rfl rfl)) (bkeeps (bstep hb17 zc.below) _ _ (hcc y.i (by first | omega | (simp; omega))).1) ⟨_, rfl, Below.refl _ _, optDef zβ rfl⟩
            refine ⟨⟨true, .none rfl, fun h w => optUndef h, fun zβ za zw zc => ?_⟩, ?_⟩
            · exact wp_call (by kernel_rfl) rfl (hv1 ((show za.eval (.tmp 70) = za.tmps.getD 70 undef from rfl).trans (optVal (zc.dep 3 70 (by kernel_rfl)) rfl rfl))) (large_any (cget l y.i) _ _ _ ((hcc y.i (by omega)).2.1.below (bstep hb17 zc.below)) (hcc y.i (by omega)).2.2) (fun v w' h => ⟨v, rfl, h.2, optDef zβ h.1⟩)
            refine ⟨⟨true, .none rfl, fun h w => optUndef h, fun zβ za zw zc => ?_⟩, ?_⟩
            · exact wp_move rfl ((show za.eval (.tmp 71) = za.tmps.getD 71 undef from rfl).trans (optVal (zc.dep 4 71 (by kernel_rfl)) rfl rfl)) ⟨_, rfl, Below.refl _ _, optDef zβ rfl⟩
            refine ⟨⟨(true && !(decide ((40 : Int) < ((cget l y.i).length : Int)) || decide ((1000 : Int) < (clSize (cget l y.i) : Int)))), .no (c := (decide ((40 : Int) < ((cget l y.i).length : Int)) || decide ((1000 : Int) < (clSize (cget l y.i) : Int)))) (d := true) rfl (fun v w h => h), fun h w => optUndef h, fun zβ za zw zc => ?_⟩, ?_⟩
            · exact wp_move rfl (zc.kn.ev rfl) ⟨_, rfl, Below.refl _ _, optDef zβ rfl⟩
            refine ⟨⟨(true && !(decide ((40 : Int) < ((cget l y.i).length : Int)) || decide ((1000 : Int) < (clSize (cget l y.i) : Int)))), .no (c := (decide ((40 : Int) < ((cget l y.i).length : Int)) || decide ((1000 : Int) < (clSize (cget l y.i) : Int)))) (d := true) rfl (fun v w h => h), fun h w => optUndef h, fun zβ za zw zc => ?_⟩, ?_⟩
            · exact geq_3 rfl ((show za.eval (.tmp 73) = za.tmps.getD 73 undef from rfl).trans (optVal (zc.dep 6 73 (by kernel_rfl)) rfl zβ)) (zc.kn.ev rfl) ⟨_, rfl, Below.refl _ _, optDef zβ rfl⟩
            refine ⟨⟨true, .none rfl, fun h w => optUndef h, fun zβ za zw zc => ?_⟩, ?_⟩
            · exact wp_or rfl ((show za.eval (.tmp 72) = za.tmps.getD 72 undef from rfl).trans (optVal (zc.dep 5 72 (by kernel_rfl)) rfl rfl)) (fun hp => ((show za.eval (.tmp 74) = za.tmps.getD 74 undef from rfl).trans (optVal (zc.dep 7 74 (by kernel_rfl)) rfl (bMkN zβ hp)))) ⟨_, rfl, Below.refl _ _, optDef zβ rfl⟩
            exact trivial
          · intro za w20 zh hb21 zu
            have zh := zh.cons (d := 75) (v := .bool (((decide ((40 : Int) < ((cget l y.i).length : Int)) || decide ((1000 : Int) < (clSize (cget l y.i) : Int))) || (decide ((60 : Int) ≤ (((y.n : Nat) : Int) : Int)))))) (optVal (zu 8 75 (by kernel_rfl)) rfl rfl)
            clear zu
            refine (show WE _ [(0, .slice qa q.length qc), (1, .slice a l.length c), (2, .slice a2 gs.length c2), (7, .pointer (some ⟨r, 0, none⟩)), (8, .int .i64 0), (9, .int .i64 ((sumT q q.length))), (10, .bool ((ageP q q.length))), (12, .int .i64 (((y.n : Nat) : Int))), (13, .int .i64 (((y.i : Nat) : Int))), (30, .bool false), (41, .int .i64 (((q.length : Nat) : Int))), (42, .int .i64 (((q.length : Nat) : Int))), (43, .bool ((decide ((((q.length : Nat) : Int) : Int) < (((q.length : Nat) : Int) : Int))))), (63, .int .i64 (((l.length : Nat) : Int))), (64, .int .i64 (((y.i : Nat) : Int))), (65, .bool ((decide ((((y.i : Nat) : Int) : Int) < (((l.length : Nat) : Int) : Int))))), (75, .bool (((decide ((40 : Int) < ((cget l y.i).length : Int)) || decide ((1000 : Int) < (clSize (cget l y.i) : Int))) || (decide ((60 : Int) ≤ (((y.n : Nat) : Int) : Int))))))] w20 _ .normal from ?_) za (zh.sub ⟨rfl, rfl, rfl, rfl, rfl, rfl, rfl, rfl, rfl, rfl, rfl, rfl, rfl, rfl, rfl, rfl, rfl, trivial⟩)
            refine WE.next ?_
            refine WC.cond rfl (fun h22 => ?_) (fun h22 => ?_)
            · have h22 : ((decide ((40 : Int) < ((cget l y.i).length : Int)) || decide ((1000 : Int) < (clSize (cget l y.i) : Int))) = true) ∨ ((60 : Int) ≤ (((y.n : Nat) : Int) : Int)) := by simpa using h22
              refine WC.exit ?_
              refine WE.thenExit ?_
              refine WE.blockIs rfl ?_
              refine WE.next ?_
              refine WC.region ?_
              refine WL.val (.int .i64 ((((y.i + 1) : Nat) : Int))) rfl rfl rfl (fun za zC zh zk => addb_3 rfl (zh.ev rfl) (zh.ev rfl) (wrap_eq (by omega) (by omega) (by omega)) zk) ?_
              refine WL.val (.int .i64 ((((y.i + 1) : Nat) : Int))) rfl rfl rfl (fun za zC zh zk => wp_move rfl (zh.ev rfl) zk) ?_
              refine WL.nil (WE.sub (K' := [(0, .slice qa q.length qc), (1, .slice a l.length c), (2, .slice a2 gs.length c2), (7, .pointer (some ⟨r, 0, none⟩)), (8, .int .i64 0), (9, .int .i64 ((sumT q q.length))), (10, .bool ((ageP q q.length))), (12, .int .i64 (((y.n : Nat) : Int))), (13, .int .i64 (((y.i : Nat) : Int))), (30, .bool false), (41, .int .i64 (((q.length : Nat) : Int))), (42, .int .i64 (((q.length : Nat) : Int))), (43, .bool ((decide ((((q.length : Nat) : Int) : Int) < (((q.length : Nat) : Int) : Int))))), (63, .int .i64 (((l.length : Nat) : Int))), (64, .int .i64 ((((y.i + 1) : Nat) : Int))), (65, .bool ((decide ((((y.i : Nat) : Int) : Int) < (((l.length : Nat) : Int) : Int))))), (75, .bool (((decide ((40 : Int) < ((cget l y.i).length : Int)) || decide ((1000 : Int) < (clSize (cget l y.i) : Int))) || (decide ((60 : Int) ≤ (((y.n : Nat) : Int) : Int))))))]) ⟨rfl, rfl, rfl, rfl, rfl, rfl, rfl, rfl, rfl, rfl, rfl, rfl, rfl, rfl, rfl, rfl, rfl, trivial⟩ ?_)
              have ho23 := hAS.below hb21
              refine WE.round (⟨y.i + 1, y.n, y.Z, y.ws⟩) ⟨rfl, rfl, rfl, rfl, rfl, rfl, rfl, rfl, rfl, rfl, rfl, rfl, rfl, rfl, trivial⟩ ?_ ?_
              · have hb24 : Below w.heap.size w w20 := (bstep hb17 hb21)
                exact ⟨by (try dsimp only); omega, by (try dsimp only); omega, ho23, hb24⟩
              · (try dsimp only); omega
            · have h22 : ¬ (((decide ((40 : Int) < ((cget l y.i).length : Int)) || decide ((1000 : Int) < (clSize (cget l y.i) : Int))) = true) ∨ ((60 : Int) ≤ (((y.n : Nat) : Int) : Int))) := by simpa using h22
              refine WC.skip ?_
              refine WE.next ?_
              refine WC.seq ?_
              refine WC.seq ?_
              have ho25 := hAS.below hb21
              have hb26 : Below w.heap.size w w20 := (bstep hb17 hb21)
              have hBl := hb26
              have hn60 : y.n < 60 := by omega
              refine WC.seqV (S := y.Z) [(true, .val (.pointer (some ⟨r, 0, none⟩))), (true, .val (.int .i64 (((y.n : Nat) : Int)))), (true, .val (.slice a l.length c)), (true, .val (.int .i64 (((y.i : Nat) : Int)))), (true, .val (.pointer (some ⟨cb, co + y.i, none⟩))), (true, .val (.slice ((A y.i)) ((cget l y.i).length) ((C y.i)))), (true, .val (.int .i64 (((y.i : Nat) : Int)))), (true, .val (.slice a2 gs.length c2)), (true, .val (.int .i64 (((gs.length : Nat) : Int)))), (true, .val (.bool ((decide ((((y.i : Nat) : Int) : Int) < (((gs.length : Nat) : Int) : Int)))))), (true, .val (.bool ((decide ((((y.i : Nat) : Int) : Int) < (((gs.length : Nat) : Int) : Int)))))), ((true && (decide ((((y.i : Nat) : Int) : Int) < (((gs.length : Nat) : Int) : Int)))), .val (.slice a2 gs.length c2)), ((true && (decide ((((y.i : Nat) : Int) : Int) < (((gs.length : Nat) : Int) : Int)))), .val (.int .i64 (((y.i : Nat) : Int)))), ((true && (decide ((((y.i : Nat) : Int) : Int) < (((gs.length : Nat) : Int) : Int)))), .val (.pointer (some ⟨gb, go + y.i, none⟩))), ((true && (decide ((((y.i : Nat) : Int) : Int) < (((gs.length : Nat) : Int) : Int)))), .val (.bool ((bget2 gs y.i)))), (true, .val (.bool (((decide ((((y.i : Nat) : Int) : Int) < (((gs.length : Nat) : Int) : Int))) && (bget2 gs y.i))))), (true, .val undef), (true, .val (.bool false))] [(0, .slice qa q.length qc), (1, .slice a l.length c), (2, .slice a2 gs.length c2), (7, .pointer (some ⟨r, 0, none⟩)), (8, .int .i64 0), (9, .int .i64 ((sumT q q.length))), (10, .bool ((ageP q q.length))), (12, .int .i64 (((y.n : Nat) : Int))), (13, .int .i64 (((y.i : Nat) : Int))), (30, .bool false), (41, .int .i64 (((q.length : Nat) : Int))), (42, .int .i64 (((q.length : Nat) : Int))), (43, .bool ((decide ((((q.length : Nat) : Int) : Int) < (((q.length : Nat) : Int) : Int))))), (63, .int .i64 (((l.length : Nat) : Int))), (64, .int .i64 (((y.i : Nat) : Int))), (65, .bool ((decide ((((y.i : Nat) : Int) : Int) < (((l.length : Nat) : Int) : Int))))), (75, .bool (((decide ((40 : Int) < ((cget l y.i).length : Int)) || decide ((1000 : Int) < (clSize (cget l y.i) : Int))) || (decide ((60 : Int) ≤ (((y.n : Nat) : Int) : Int))))))] [16] [some (true, .int .i64 0)] (AG (fun w1 => AddS w w1 r q y.Z y.ws y.n) (fun w1 => ∃ Z' ws', AddS w w1 r q Z' ws' (y.n + 1))) ((AG.below (fun _ _ hb h => h.below hb) (fun _ _ hb ⟨Z, ws, h⟩ => ⟨Z, ws, h.below hb⟩))) (by decide) ⟨rfl, rfl, rfl, rfl, rfl, rfl, rfl, rfl, rfl, rfl, rfl, rfl, rfl, rfl, rfl, rfl, rfl, trivial⟩ (by kernel_rfl) (by kernel_rfl) (by kernel_rfl) (by kernel_rfl) ho25 ?_ ?_
              · refine ⟨.inl ⟨rfl, true, .none rfl, (fun gg b h => by cases h), fun h w => optUndef h, fun zβ za zw zc => ?_⟩, ?_⟩
                · exact wp_move rfl (zc.kn.ev rfl) ⟨_, rfl, Below.refl _ _, optDef zβ rfl⟩
                refine ⟨.inl ⟨rfl, true, .none rfl, (fun gg b h => by cases h), fun h w => optUndef h, fun zβ za zw zc => ?_⟩, ?_⟩
                · exact wp_move rfl (zc.kn.ev rfl) ⟨_, rfl, Below.refl _ _, optDef zβ rfl⟩
                refine ⟨.inl ⟨rfl, true, .none rfl, (fun gg b h => by cases h), fun h w => optUndef h, fun zβ za zw zc => ?_⟩, ?_⟩
                · exact wp_move rfl (zc.kn.ev rfl) ⟨_, rfl, Below.refl _ _, optDef zβ rfl⟩
                refine ⟨.inl ⟨rfl, true, .none rfl, (fun gg b h => by cases h), fun h w => optUndef h, fun zβ za zw zc => ?_⟩, ?_⟩
                · exact wp_move rfl (zc.kn.ev rfl) ⟨_, rfl, Below.refl _ _, optDef zβ rfl⟩
                refine ⟨.inl ⟨rfl, true, .none rfl, (fun gg b h => by cases h), fun h w => optUndef h, fun zβ za zw zc => ?_⟩, ?_⟩
                · exact ix_31 (k := y.i) rfl ((show za.eval (.tmp 78) = za.tmps.getD 78 undef from rfl).trans (optSVal (zc.dep 2 78 (by kernel_rfl) (by decide)) rfl rfl)) (hca y.i (by first | omega | (simp; omega))) ((show za.eval (.tmp 79) = za.tmps.getD 79 undef from rfl).trans (optSVal (zc.dep 3 79 (by kernel_rfl) (by decide)) rfl rfl)) (by first | omega | (simp; omega)) ⟨_, rfl, Below.refl _ _, optDef zβ rfl⟩
                refine ⟨.inl ⟨rfl, true, .none rfl, (fun gg b h => by cases h), fun h w => optUndef h, fun zβ za zw zc => ?_⟩, ?_⟩
                · exact ld_24 rfl ((show za.eval (.tmp 80) = za.tmps.getD 80 undef from rfl).trans (optSVal (zc.dep 4 80 (by kernel_rfl) (by decide)) rfl rfl)) (chg_old hb26 zc.chg (fun b hb => by intro u; have z9 := (hAS.z0 _ u).1; omega) (hcc y.i (by first | omega | (simp; omega))).1) ⟨_, rfl, Below.refl _ _, optDef zβ rfl⟩
                refine ⟨.inl ⟨rfl, true, .none rfl, (fun gg b h => by cases h), fun h w => optUndef h, fun zβ za zw zc => ?_⟩, ?_⟩
                · exact wp_move rfl (zc.kn.ev rfl) ⟨_, rfl, Below.refl _ _, optDef zβ rfl⟩
                refine ⟨.inl ⟨rfl, true, .none rfl, (fun gg b h => by cases h), fun h w => optUndef h, fun zβ za zw zc => ?_⟩, ?_⟩
                · exact wp_move rfl (zc.kn.ev rfl) ⟨_, rfl, Below.refl _ _, optDef zβ rfl⟩
                refine ⟨.inl ⟨rfl, true, .none rfl, (fun gg b h => by cases h), fun h w => optUndef h, fun zβ za zw zc => ?_⟩, ?_⟩
                · exact len_32 rfl ((show za.eval (.tmp 83) = za.tmps.getD 83 undef from rfl).trans (optSVal (zc.dep 7 83 (by kernel_rfl) (by decide)) rfl rfl)) ⟨_, rfl, Below.refl _ _, optDef zβ rfl⟩
                refine ⟨.inl ⟨rfl, true, .none rfl, (fun gg b h => by cases h), fun h w => optUndef h, fun zβ za zw zc => ?_⟩, ?_⟩
                · exact lss_3 rfl ((show za.eval (.tmp 82) = za.tmps.getD 82 undef from rfl).trans (optSVal (zc.dep 6 82 (by kernel_rfl) (by decide)) rfl rfl)) ((show za.eval (.tmp 84) = za.tmps.getD 84 undef from rfl).trans (optSVal (zc.dep 8 84 (by kernel_rfl) (by decide)) rfl rfl)) ⟨_, rfl, Below.refl _ _, optDef zβ rfl⟩
                refine ⟨.inl ⟨rfl, true, .none rfl, (fun gg b h => by cases h), fun h w => optUndef h, fun zβ za zw zc => ?_⟩, ?_⟩
                · exact wp_move rfl ((show za.eval (.tmp 85) = za.tmps.getD 85 undef from rfl).trans (optSVal (zc.dep 9 85 (by kernel_rfl) (by decide)) rfl rfl)) ⟨_, rfl, Below.refl _ _, optDef zβ rfl⟩
                refine ⟨.inl ⟨rfl, (true && (decide ((((y.i : Nat) : Int) : Int) < (((gs.length : Nat) : Int) : Int)))), .yes (c := (decide ((((y.i : Nat) : Int) : Int) < (((gs.length : Nat) : Int) : Int)))) (d := true) rfl (fun v w h => h), (fun gg b h => by cases h; rfl), fun h w => optUndef h, fun zβ za zw zc => ?_⟩, ?_⟩
                · exact wp_move rfl (zc.kn.ev rfl) ⟨_, rfl, Below.refl _ _, optDef zβ rfl⟩
                refine ⟨.inl ⟨rfl, (true && (decide ((((y.i : Nat) : Int) : Int) < (((gs.length : Nat) : Int) : Int)))), .yes (c := (decide ((((y.i : Nat) : Int) : Int) < (((gs.length : Nat) : Int) : Int)))) (d := true) rfl (fun v w h => h), (fun gg b h => by cases h; rfl), fun h w => optUndef h, fun zβ za zw zc => ?_⟩, ?_⟩
                · exact wp_move rfl (zc.kn.ev rfl) ⟨_, rfl, Below.refl _ _, optDef zβ rfl⟩
                refine ⟨.inl ⟨rfl, (true && (decide ((((y.i : Nat) : Int) : Int) < (((gs.length : Nat) : Int) : Int)))), .yes (c := (decide ((((y.i : Nat) : Int) : Int) < (((gs.length : Nat) : Int) : Int)))) (d := true) rfl (fun v w h => h), (fun gg b h => by cases h; rfl), fun h w => optUndef h, fun zβ za zw zc => ?_⟩, ?_⟩
                · exact ix_32 (k := y.i) rfl ((show za.eval (.tmp 87) = za.tmps.getD 87 undef from rfl).trans (optSVal (zc.dep 11 87 (by kernel_rfl) (by decide)) rfl zβ)) (hga y.i (by first | omega | (have zz := zβ; simp only [Bool.and_eq_true, Bool.or_eq_true, Bool.true_and, Bool.not_eq_true', Bool.or_eq_false_iff, Bool.and_eq_false_iff, beq_eq_false_iff_ne, ne_eq, beq_iff_eq, decide_eq_true_eq, decide_eq_false_iff_not, bne_iff_ne] at zz; omega))) ((show za.eval (.tmp 88) = za.tmps.getD 88 undef from rfl).trans (optSVal (zc.dep 12 88 (by kernel_rfl) (by decide)) rfl zβ)) (by first | omega | (have zz := zβ; simp only [Bool.and_eq_true, Bool.or_eq_true, Bool.true_and, Bool.not_eq_true', Bool.or_eq_false_iff, Bool.and_eq_false_iff, beq_eq_false_iff_ne, ne_eq, beq_iff_eq, decide_eq_true_eq, decide_eq_false_iff_not, bne_iff_ne] at zz; omega)) ⟨_, rfl, Below.refl _ _, optDef zβ rfl⟩
                refine ⟨.inl ⟨rfl, (true && (decide ((((y.i : Nat) : Int) : Int) < (((gs.length : Nat) : Int) : Int)))), .yes (c := (decide ((((y.i : Nat) : Int) : Int) < (((gs.length : Nat) : Int) : Int)))) (d := true) rfl (fun v w h => h), (fun gg b h => by cases h; rfl), fun h w => optUndef h, fun zβ za zw zc => ?_⟩, ?_⟩
                · exact ld_4 rfl ((show za.eval (.tmp 89) = za.tmps.getD 89 undef from rfl).trans (optSVal (zc.dep 13 89 (by kernel_rfl) (by decide)) rfl zβ)) (chg_old hb26 zc.chg (fun b hb => by intro u; have z9 := (hAS.z0 _ u).1; omega) (hgc y.i (by first | omega | (have zz := zβ; simp only [Bool.and_eq_true, Bool.or_eq_true, Bool.true_and, Bool.not_eq_true', Bool.or_eq_false_iff, Bool.and_eq_false_iff, beq_eq_false_iff_ne, ne_eq, beq_iff_eq, decide_eq_true_eq, decide_eq_false_iff_not, bne_iff_ne] at zz; omega)))) ⟨_, rfl, Below.refl _ _, optDef zβ rfl⟩
                refine ⟨.inl ⟨rfl, true, .none rfl, (fun gg b h => by cases h), fun h w => optUndef h, fun zβ za zw zc => ?_⟩, ?_⟩
                · exact wp_and rfl ((show za.eval (.tmp 86) = za.tmps.getD 86 undef from rfl).trans (optSVal (zc.dep 10 86 (by kernel_rfl) (by decide)) rfl rfl)) (fun hp => ((show za.eval (.tmp 90) = za.tmps.getD 90 undef from rfl).trans (optSVal (zc.dep 14 90 (by kernel_rfl) (by decide)) rfl (bMk zβ hp)))) ⟨_, rfl, Below.refl _ _, optDef zβ rfl⟩
                refine ⟨.inr ⟨0, rfl, by kernel_rfl, true, .none rfl, (fun gg b h => by cases h), (fun h => (nomatch h)), fun zβ za zw zvals zc => ?_⟩, ?_⟩
                · obtain rfl := vlen0 zc.len
                  have zn := zc.now
                  have zn2 : AddS w zw r q y.Z y.ws y.n := zn
                  exact wp_call (by kernel_rfl) rfl (hv4 ((show za.eval (.tmp 76) = za.tmps.getD 76 undef from rfl).trans (optSVal (zc.dep 0 76 (by kernel_rfl) (by decide)) rfl rfl)) ((show za.eval (.tmp 77) = za.tmps.getD 77 undef from rfl).trans (optSVal (zc.dep 1 77 (by kernel_rfl) (by decide)) rfl rfl)) ((show za.eval (.tmp 81) = za.tmps.getD 81 undef from rfl).trans (optSVal (zc.dep 5 81 (by kernel_rfl) (by decide)) rfl rfl)) ((show za.eval (.tmp 91) = za.tmps.getD 91 undef from rfl).trans (optSVal (zc.dep 15 91 (by kernel_rfl) (by decide)) rfl rfl))) (fair_add zw zn2 hn60 (cget l y.i) ((decide ((((y.i : Nat) : Int) : Int) < (((gs.length : Nat) : Int) : Int))) && (bget2 gs y.i)) _ _ (chg_below hBl zc.chg (fun b hb => (by intro u; have z9 := (hAS.z0 _ u).1; omega))) (hcc y.i (by omega)).2.1 (hcc y.i (by omega)).2.2) (fun v w2 h => ⟨v, rfl, h.2.2, h.2.1, cvIs h.1⟩)
                refine ⟨.inl ⟨rfl, true, .none rfl, (fun gg b h => by cases h), fun h w => optUndef h, fun zβ za zw zc => ?_⟩, ?_⟩
                · exact neq_34 rfl ((show za.eval (.tmp 92) = za.tmps.getD 92 undef from rfl).trans (zc.link 0 16 92 _ _ rfl (by kernel_rfl) rfl rfl)) (zc.kn.ev rfl) ⟨_, rfl, Below.refl _ _, optDef zβ rfl⟩
                exact trivial
              · intro za w27 zvals zh zl hG28 hc29 zu zw zk
                obtain ⟨z0, rfl⟩ := vlen1 zl
                have zh := zh.cons (d := 93) (v := .bool false) (optSVal (zu 17 93 (by kernel_rfl) (by decide)) rfl rfl)
                have hb30 := chg_below hb26 hc29 (fun b hb => (by intro u; have z9 := (hAS.z0 _ u).1; omega))
                obtain ⟨Z32, ws33, hAS31⟩ := hG28
                clear zu zw zk
                refine (show WE _ [(0, .slice qa q.length qc), (1, .slice a l.length c), (2, .slice a2 gs.length c2), (7, .pointer (some ⟨r, 0, none⟩)), (8, .int .i64 0), (9, .int .i64 ((sumT q q.length))), (10, .bool ((ageP q q.length))), (12, .int .i64 (((y.n : Nat) : Int))), (13, .int .i64 (((y.i : Nat) : Int))), (30, .bool false), (41, .int .i64 (((q.length : Nat) : Int))), (42, .int .i64 (((q.length : Nat) : Int))), (43, .bool ((decide ((((q.length : Nat) : Int) : Int) < (((q.length : Nat) : Int) : Int))))), (63, .int .i64 (((l.length : Nat) : Int))), (64, .int .i64 (((y.i : Nat) : Int))), (65, .bool ((decide ((((y.i : Nat) : Int) : Int) < (((l.length : Nat) : Int) : Int))))), (75, .bool (((decide ((40 : Int) < ((cget l y.i).length : Int)) || decide ((1000 : Int) < (clSize (cget l y.i) : Int))) || (decide ((60 : Int) ≤ (((y.n : Nat) : Int) : Int)))))), (93, .bool false)] w27 _ .normal from ?_) za (zh.sub ⟨rfl, rfl, rfl, rfl, rfl, rfl, rfl, rfl, rfl, rfl, rfl, rfl, rfl, rfl, rfl, rfl, rfl, rfl, trivial⟩)
                refine WE.next ?_
                refine WC.condF rfl rfl ?_
                refine WC.skip ?_
                refine WE.next ?_
                refine WC.region ?_
                refine WL.val (.int .i64 (((y.n : Nat) : Int))) rfl rfl rfl (fun za zC zh zk => wp_move rfl (zh.ev rfl) zk) ?_
                refine WL.val (.int .i64 ((((y.n + 1) : Nat) : Int))) rfl rfl rfl (fun za zC zh zk => addb_3 rfl (zh.ev rfl) (zh.ev rfl) (wrap_eq (by omega) (by omega) (by omega)) zk) ?_
                refine WL.val (.int .i64 ((((y.n + 1) : Nat) : Int))) rfl rfl rfl (fun za zC zh zk => wp_assign rfl (zh.ev rfl) zk) ?_
                refine WL.nil (WE.sub (K' := [(0, .slice qa q.length qc), (1, .slice a l.length c), (2, .slice a2 gs.length c2), (7, .pointer (some ⟨r, 0, none⟩)), (8, .int .i64 0), (9, .int .i64 ((sumT q q.length))), (10, .bool ((ageP q q.length))), (12, .int .i64 ((((y.n + 1) : Nat) : Int))), (13, .int .i64 (((y.i : Nat) : Int))), (30, .bool false), (41, .int .i64 (((q.length : Nat) : Int))), (42, .int .i64 (((q.length : Nat) : Int))), (43, .bool ((decide ((((q.length : Nat) : Int) : Int) < (((q.length : Nat) : Int) : Int))))), (63, .int .i64 (((l.length : Nat) : Int))), (64, .int .i64 (((y.i : Nat) : Int))), (65, .bool ((decide ((((y.i : Nat) : Int) : Int) < (((l.length : Nat) : Int) : Int))))), (75, .bool (((decide ((40 : Int) < ((cget l y.i).length : Int)) || decide ((1000 : Int) < (clSize (cget l y.i) : Int))) || (decide ((60 : Int) ≤ (((y.n : Nat) : Int) : Int)))))), (93, .bool false)]) ⟨rfl, rfl, rfl, rfl, rfl, rfl, rfl, rfl, rfl, rfl, rfl, rfl, rfl, rfl, rfl, rfl, rfl, rfl, trivial⟩ ?_)
                refine WE.blockNormal ?_
                refine WE.next ?_
                refine WC.region ?_
                refine WL.val (.int .i64 ((((y.i + 1) : Nat) : Int))) rfl rfl rfl (fun za zC zh zk => addb_3 rfl (zh.ev rfl) (zh.ev rfl) (wrap_eq (by omega) (by omega) (by omega)) zk) ?_
                refine WL.val (.int .i64 ((((y.i + 1) : Nat) : Int))) rfl rfl rfl (fun za zC zh zk => wp_move rfl (zh.ev rfl) zk) ?_
                refine WL.nil (WE.sub (K' := [(0, .slice qa q.length qc), (1, .slice a l.length c), (2, .slice a2 gs.length c2), (7, .pointer (some ⟨r, 0, none⟩)), (8, .int .i64 0), (9, .int .i64 ((sumT q q.length))), (10, .bool ((ageP q q.length))), (12, .int .i64 ((((y.n + 1) : Nat) : Int))), (13, .int .i64 (((y.i : Nat) : Int))), (30, .bool false), (41, .int .i64 (((q.length : Nat) : Int))), (42, .int .i64 (((q.length : Nat) : Int))), (43, .bool ((decide ((((q.length : Nat) : Int) : Int) < (((q.length : Nat) : Int) : Int))))), (63, .int .i64 (((l.length : Nat) : Int))), (64, .int .i64 ((((y.i + 1) : Nat) : Int))), (65, .bool ((decide ((((y.i : Nat) : Int) : Int) < (((l.length : Nat) : Int) : Int))))), (75, .bool (((decide ((40 : Int) < ((cget l y.i).length : Int)) || decide ((1000 : Int) < (clSize (cget l y.i) : Int))) || (decide ((60 : Int) ≤ (((y.n : Nat) : Int) : Int)))))), (93, .bool false)]) ⟨rfl, rfl, rfl, rfl, rfl, rfl, rfl, rfl, rfl, rfl, rfl, rfl, rfl, rfl, rfl, rfl, rfl, rfl, trivial⟩ ?_)
                refine WE.round (⟨y.i + 1, y.n + 1, Z32, ws33⟩) ⟨rfl, rfl, rfl, rfl, rfl, rfl, rfl, rfl, rfl, rfl, rfl, rfl, rfl, rfl, trivial⟩ ?_ ?_
                · exact ⟨by (try dsimp only); omega, by (try dsimp only); omega, hAS31.below (Below.refl _ _), hb30⟩
                · (try dsimp only); omega
        · have h18 : ¬ ((((y.i : Nat) : Int) : Int) < (((l.length : Nat) : Int) : Int)) := by simpa using h18
          refine WC.exit ?_
          refine WE.thenExit ?_
          refine WE.thenExit ?_
          refine WE.blockIs rfl ?_
          refine WE.next ?_
          refine WC.seq ?_
          refine WC.region ?_
          refine WL.val (.int .i64 (((y.n : Nat) : Int))) rfl rfl rfl (fun za zC zh zk => wp_move rfl (zh.ev rfl) zk) ?_
          refine WL.step (post := fun v w' => ∃ g, v = .slice (some ⟨g, 0, none⟩) y.n y.n ∧ w16.heap.size = g ∧ Blk w' g 4 (madeCells (Value.cells (.bool false)) (y.n * 1)) ∧ Below w16.heap.size w16 w') rfl rfl rfl (fun za zC zh zk => wp_mkE (z := .bool false) (size := 1) (bytes := 1) Try.underlying32 (by kernel_rfl) (by decide) rfl (zh.ev rfl) (zh.ev rfl) (by omega) (zk _ _ ⟨_, rfl, rfl, Blk.new' rfl, balloc _ _⟩)) ?_
          rintro _ w34 ⟨mg, rfl, hg35, hB36, hb37⟩
          have hFS0 := FS.start hAS
          have hZm : ¬ y.Z mg := fun u => by have z9 := (hAS.z0 _ u).2; omega
          have hl39 : w.heap.size ≤ mg := by have z2 := (hb17).size; omega
          have hl40 : w16.heap.size ≤ mg := by omega
          have hmgw : w.heap.size ≤ mg := by have z9 := hb17.size; omega
          have hM38 := brow_new hB36
          refine WL.val (.slice ((some ⟨mg, 0, none⟩)) y.n y.n) rfl rfl rfl (fun za zC zh zk => wp_assign rfl (zh.ev rfl) zk) ?_
          refine WL.nil (WE.sub (K' := [(0, .slice qa q.length qc), (1, .slice a l.length c), (2, .slice a2 gs.length c2), (7, .pointer (some ⟨r, 0, none⟩)), (8, .int .i64 0), (9, .int .i64 ((sumT q q.length))), (10, .bool ((ageP q q.length))), (12, .int .i64 (((y.n : Nat) : Int))), (14, .slice ((some ⟨mg, 0, none⟩)) y.n y.n), (30, .bool false), (41, .int .i64 (((q.length : Nat) : Int))), (42, .int .i64 (((q.length : Nat) : Int))), (43, .bool ((decide ((((q.length : Nat) : Int) : Int) < (((q.length : Nat) : Int) : Int))))), (63, .int .i64 (((l.length : Nat) : Int))), (64, .int .i64 (((y.i : Nat) : Int))), (65, .bool ((decide ((((y.i : Nat) : Int) : Int) < (((l.length : Nat) : Int) : Int)))))]) ⟨rfl, rfl, rfl, rfl, rfl, rfl, rfl, rfl, rfl, rfl, rfl, rfl, rfl, rfl, rfl, rfl, trivial⟩ ?_)
          refine WE.next ?_
          refine WC.seq ?_
          refine WC.seq ?_
          refine WC.region ?_
          refine WL.val (.int .i64 1) rfl rfl rfl (fun za zC zh zk => wp_assign rfl (zh.ev rfl) zk) ?_
          refine WL.nil (WE.sub (K' := [(0, .slice qa q.length qc), (1, .slice a l.length c), (2, .slice a2 gs.length c2), (7, .pointer (some ⟨r, 0, none⟩)), (8, .int .i64 0), (9, .int .i64 ((sumT q q.length))), (10, .bool ((ageP q q.length))), (12, .int .i64 (((y.n : Nat) : Int))), (14, .slice ((some ⟨mg, 0, none⟩)) y.n y.n), (15, .int .i64 1), (30, .bool false), (41, .int .i64 (((q.length : Nat) : Int))), (42, .int .i64 (((q.length : Nat) : Int))), (43, .bool ((decide ((((q.length : Nat) : Int) : Int) < (((q.length : Nat) : Int) : Int))))), (63, .int .i64 (((l.length : Nat) : Int))), (64, .int .i64 (((y.i : Nat) : Int))), (65, .bool ((decide ((((y.i : Nat) : Int) : Int) < (((l.length : Nat) : Int) : Int)))))]) ⟨rfl, rfl, rfl, rfl, rfl, rfl, rfl, rfl, rfl, rfl, rfl, rfl, rfl, rfl, rfl, rfl, rfl, trivial⟩ ?_)
          refine WE.next ?_
          refine WC.block ?_
          refine WC.loop (X := FtS) (fun u => y.n - u.k) (fun u => [(0, .slice qa q.length qc), (1, .slice a l.length c), (2, .slice a2 gs.length c2), (7, .pointer (some ⟨r, 0, none⟩)), (8, .int .i64 0), (9, .int .i64 ((sumT q q.length))), (10, .bool ((ageP q q.length))), (12, .int .i64 (((y.n : Nat) : Int))), (14, .slice ((some ⟨mg, 0, none⟩)) y.n y.n), (15, .int .i64 ((((u.k + 1) : Nat) : Int))), (30, .bool false), (41, .int .i64 (((q.length : Nat) : Int))), (42, .int .i64 (((q.length : Nat) : Int))), (43, .bool ((decide ((((q.length : Nat) : Int) : Int) < (((q.length : Nat) : Int) : Int))))), (63, .int .i64 (((l.length : Nat) : Int))), (64, .int .i64 (((y.i : Nat) : Int))), (65, .bool ((decide ((((y.i : Nat) : Int) : Int) < (((l.length : Nat) : Int) : Int)))))]) (fun u w41 => u.k ≤ y.n ∧ FS w (w41) r q y.n u.k u.met u.Z u.ws u.at_ u.dn ∧ BRow w41 4 mg y.n u.met ∧ ¬ u.Z mg ∧ Below w.heap.size w w41) (⟨0, (fun _ => false), y.Z, y.ws, 0, 0⟩) ⟨rfl, rfl, rfl, rfl, rfl, rfl, rfl, rfl, rfl, rfl, rfl, rfl, rfl, rfl, rfl, rfl, rfl, trivial⟩ ?_ ?_
          · have hb42 : Below w.heap.size w w34 := (bstep hb17 hb37)
            exact ⟨Nat.zero_le _, hFS0.below hb37, hM38, hZm, hb42⟩
          · rintro u w41 ⟨hku, hFS, hBR, hZu, hb43⟩
            refine WC.seq ?_
            refine WC.seq ?_
            refine WC.region ?_
            refine WL.val (.int .i64 ((((u.k + 1) : Nat) : Int))) rfl rfl rfl (fun za zC zh zk => wp_move rfl (zh.ev rfl) zk) ?_
            refine WL.val (.int .i64 (((y.n : Nat) : Int))) rfl rfl rfl (fun za zC zh zk => wp_move rfl (zh.ev rfl) zk) ?_
            refine WL.val (.bool ((decide (((((u.k + 1) : Nat) : Int) : Int) ≤ (((y.n : Nat) : Int) : Int))))) rfl rfl rfl (fun za zC zh zk => leq_3 rfl (zh.ev rfl) (zh.ev rfl) zk) ?_
            refine WL.nil (WE.sub (K' := [(0, .slice qa q.length qc), (1, .slice a l.length c), (2, .slice a2 gs.length c2), (7, .pointer (some ⟨r, 0, none⟩)), (8, .int .i64 0), (9, .int .i64 ((sumT q q.length))), (10, .bool ((ageP q q.length))), (12, .int .i64 (((y.n : Nat) : Int))), (14, .slice ((some ⟨mg, 0, none⟩)) y.n y.n), (15, .int .i64 ((((u.k + 1) : Nat) : Int))), (30, .bool false), (41, .int .i64 (((q.length : Nat) : Int))), (42, .int .i64 (((q.length : Nat) : Int))), (43, .bool ((decide ((((q.length : Nat) : Int) : Int) < (((q.length : Nat) : Int) : Int))))), (63, .int .i64 (((l.length : Nat) : Int))), (64, .int .i64 (((y.i : Nat) : Int))), (65, .bool ((decide ((((y.i : Nat) : Int) : Int) < (((l.length : Nat) : Int) : Int))))), (101, .bool ((decide (((((u.k + 1) : Nat) : Int) : Int) ≤ (((y.n : Nat) : Int) : Int)))))]) ⟨rfl, rfl, rfl, rfl, rfl, rfl, rfl, rfl, rfl, rfl, rfl, rfl, rfl, rfl, rfl, rfl, rfl, rfl, trivial⟩ ?_)
            refine WE.next ?_
            refine WC.cond rfl (fun h44 => ?_) (fun h44 => ?_)
            · have h44 : ((((u.k + 1) : Nat) : Int) : Int) ≤ (((y.n : Nat) : Int) : Int) := by simpa using h44
              refine WC.skip ?_
              refine WE.next ?_
              refine WC.seq ?_
              refine WC.block ?_
              refine WC.seq ?_
              refine WC.region ?_
              refine WL.val (.pointer (some ⟨r, 0, none⟩)) rfl rfl rfl (fun za zC zh zk => wp_move rfl (zh.ev rfl) zk) ?_
              have hlm := hBR.lt
              refine WL.call rfl rfl rfl (fun za zh zC => wp_call (by kernel_rfl) rfl (hv1 (zh.ev rfl))) (fair_next _ hFS (by omega) hyn) ?_
              rintro _ w45 ⟨m, rfl, hmn, hmet, hage, ⟨Z2, ws2, at2, dn2, hFS2, hZ2⟩, hcF⟩
              have hb46 := chg_below hb43 hcF (fun b hb => (by intro v; have z9 := (hFS.z0 _ v).1; omega))
              have hBR2 := BRow.chg hBR hcF hZu
              have hZ2m : ¬ Z2 mg := fun v => Or.elim (hZ2 _ v) hZu (fun v => by omega)
              refine WL.val (.tuple #[.int .i64 (((m : Nat) : Int)), .bool true]) rfl rfl rfl (fun za zC zh zk => wp_move rfl (zh.ev rfl) zk) ?_
              refine WL.val (.int .i64 (((m : Nat) : Int))) rfl rfl rfl (fun za zC zh zk => ext2_0 rfl (zh.ev rfl) zk) ?_
              refine WL.val (.bool true) rfl rfl rfl (fun za zC zh zk => ext2_1 rfl (zh.ev rfl) zk) ?_
              refine WL.val (.int .i64 (((m : Nat) : Int))) rfl rfl rfl (fun za zC zh zk => wp_assign rfl (zh.ev rfl) zk) ?_
              refine WL.val (.bool true) rfl rfl rfl (fun za zC zh zk => wp_assign rfl (zh.ev rfl) zk) ?_
              refine WL.nil (WE.sub (K' := [(0, .slice qa q.length qc), (1, .slice a l.length c), (2, .slice a2 gs.length c2), (7, .pointer (some ⟨r, 0, none⟩)), (8, .int .i64 0), (9, .int .i64 ((sumT q q.length))), (10, .bool ((ageP q q.length))), (12, .int .i64 (((y.n : Nat) : Int))), (14, .slice ((some ⟨mg, 0, none⟩)) y.n y.n), (15, .int .i64 ((((u.k + 1) : Nat) : Int))), (16, .int .i64 (((m : Nat) : Int))), (17, .bool true), (30, .bool false), (41, .int .i64 (((q.length : Nat) : Int))), (42, .int .i64 (((q.length : Nat) : Int))), (43, .bool ((decide ((((q.length : Nat) : Int) : Int) < (((q.length : Nat) : Int) : Int))))), (63, .int .i64 (((l.length : Nat) : Int))), (64, .int .i64 (((y.i : Nat) : Int))), (65, .bool ((decide ((((y.i : Nat) : Int) : Int) < (((l.length : Nat) : Int) : Int))))), (101, .bool ((decide (((((u.k + 1) : Nat) : Int) : Int) ≤ (((y.n : Nat) : Int) : Int)))))]) ⟨rfl, rfl, rfl, rfl, rfl, rfl, rfl, rfl, rfl, rfl, rfl, rfl, rfl, rfl, rfl, rfl, rfl, rfl, rfl, rfl, trivial⟩ ?_)
              refine WE.next ?_
              refine WC.seq ?_
              refine WC.seq ?_
              have hm1 : 0 ≤ ((m : Int) + 2) * (sumT q q.length) := Int.mul_nonneg (by omega) hall.1
              have hm2 : ((m : Int) + 2) * (sumT q q.length) ≤ 62 * 8000 := Int.mul_le_mul (by omega) (by omega) hall.1 (by omega)
              refine WC.opt [(true, .val (.bool true)), (true, .val (.bool false)), (true, .val (.bool false)), ((true && !false), .val (.int .i64 (((m : Nat) : Int)))), ((true && !false), .val (.bool ((decide ((((m : Nat) : Int) : Int) < (0 : Int)))))), (true, .val (.bool ((decide ((((m : Nat) : Int) : Int) < (0 : Int)))))), (true, .val (.bool ((decide ((((m : Nat) : Int) : Int) < (0 : Int)))))), ((true && !(decide ((((m : Nat) : Int) : Int) < (0 : Int)))), .val (.int .i64 (((m : Nat) : Int)))), ((true && !(decide ((((m : Nat) : Int) : Int) < (0 : Int)))), .val (.int .i64 (((y.n : Nat) : Int)))), ((true && !(decide ((((m : Nat) : Int) : Int) < (0 : Int)))), .val (.bool ((decide ((((y.n : Nat) : Int) : Int) ≤ (((m : Nat) : Int) : Int)))))), (true, .val (.bool (((decide ((((m : Nat) : Int) : Int) < (0 : Int))) || (decide ((((y.n : Nat) : Int) : Int) ≤ (((m : Nat) : Int) : Int))))))), (true, .val (.bool (((decide ((((m : Nat) : Int) : Int) < (0 : Int))) || (decide ((((y.n : Nat) : Int) : Int) ≤ (((m : Nat) : Int) : Int))))))), ((true && !((decide ((((m : Nat) : Int) : Int) < (0 : Int))) || (decide ((((y.n : Nat) : Int) : Int) ≤ (((m : Nat) : Int) : Int))))), .val (.slice ((some ⟨mg, 0, none⟩)) y.n y.n)), ((true && !((decide ((((m : Nat) : Int) : Int) < (0 : Int))) || (decide ((((y.n : Nat) : Int) : Int) ≤ (((m : Nat) : Int) : Int))))), .val (.int .i64 (((m : Nat) : Int)))), ((true && !((decide ((((m : Nat) : Int) : Int) < (0 : Int))) || (decide ((((y.n : Nat) : Int) : Int) ≤ (((m : Nat) : Int) : Int))))), .val (.pointer (some ⟨mg, 0 + m, none⟩))), ((true && !((decide ((((m : Nat) : Int) : Int) < (0 : Int))) || (decide ((((y.n : Nat) : Int) : Int) ≤ (((m : Nat) : Int) : Int))))), .val (.bool ((u.met m)))), (true, .val (.bool ((((decide ((((m : Nat) : Int) : Int) < (0 : Int))) || (decide ((((y.n : Nat) : Int) : Int) ≤ (((m : Nat) : Int) : Int)))) || (u.met m))))), (true, .val (.bool ((((decide ((((m : Nat) : Int) : Int) < (0 : Int))) || (decide ((((y.n : Nat) : Int) : Int) ≤ (((m : Nat) : Int) : Int)))) || (u.met m))))), ((true && !(((decide ((((m : Nat) : Int) : Int) < (0 : Int))) || (decide ((((y.n : Nat) : Int) : Int) ≤ (((m : Nat) : Int) : Int)))) || (u.met m))), .val (.bool ((ageP q q.length)))), ((true && !(((decide ((((m : Nat) : Int) : Int) < (0 : Int))) || (decide ((((y.n : Nat) : Int) : Int) ≤ (((m : Nat) : Int) : Int)))) || (u.met m))), .val (.bool ((ageP q q.length)))), (((true && !(((decide ((((m : Nat) : Int) : Int) < (0 : Int))) || (decide ((((y.n : Nat) : Int) : Int) ≤ (((m : Nat) : Int) : Int)))) || (u.met m))) && (ageP q q.length)), .val (.int .i64 ((((u.k + 1) : Nat) : Int)))), (((true && !(((decide ((((m : Nat) : Int) : Int) < (0 : Int))) || (decide ((((y.n : Nat) : Int) : Int) ≤ (((m : Nat) : Int) : Int)))) || (u.met m))) && (ageP q q.length)), .val (.int .i64 (((m : Nat) : Int)))), (((true && !(((decide ((((m : Nat) : Int) : Int) < (0 : Int))) || (decide ((((y.n : Nat) : Int) : Int) ≤ (((m : Nat) : Int) : Int)))) || (u.met m))) && (ageP q q.length)), .val (.int .i64 (((m : Int) + 2)))), (((true && !(((decide ((((m : Nat) : Int) : Int) < (0 : Int))) || (decide ((((y.n : Nat) : Int) : Int) ≤ (((m : Nat) : Int) : Int)))) || (u.met m))) && (ageP q q.length)), .val (.int .i64 ((sumT q q.length)))), (((true && !(((decide ((((m : Nat) : Int) : Int) < (0 : Int))) || (decide ((((y.n : Nat) : Int) : Int) ≤ (((m : Nat) : Int) : Int)))) || (u.met m))) && (ageP q q.length)), .val (.int .i64 (((m : Int) + 2) * (sumT q q.length)))), (((true && !(((decide ((((m : Nat) : Int) : Int) < (0 : Int))) || (decide ((((y.n : Nat) : Int) : Int) ≤ (((m : Nat) : Int) : Int)))) || (u.met m))) && (ageP q q.length)), .val (.bool ((decide ((((m : Int) + 2) * (sumT q q.length) : Int) < ((((u.k + 1) : Nat) : Int) : Int)))))), ((true && !(((decide ((((m : Nat) : Int) : Int) < (0 : Int))) || (decide ((((y.n : Nat) : Int) : Int) ≤ (((m : Nat) : Int) : Int)))) || (u.met m))), .val (.bool (((ageP q q.length) && (decide ((((m : Int) + 2) * (sumT q q.length) : Int) < ((((u.k + 1) : Nat) : Int) : Int))))))), (true, .val (.bool (((((decide ((((m : Nat) : Int) : Int) < (0 : Int))) || (decide ((((y.n : Nat) : Int) : Int) ≤ (((m : Nat) : Int) : Int)))) || (u.met m)) || ((ageP q q.length) && (decide ((((m : Int) + 2) * (sumT q q.length) : Int) < ((((u.k + 1) : Nat) : Int) : Int))))))))] [(0, .slice qa q.length qc), (1, .slice a l.length c), (2, .slice a2 gs.length c2), (7, .pointer (some ⟨r, 0, none⟩)), (8, .int .i64 0), (9, .int .i64 ((sumT q q.length))), (10, .bool ((ageP q q.length))), (12, .int .i64 (((y.n : Nat) : Int))), (14, .slice ((some ⟨mg, 0, none⟩)) y.n y.n), (15, .int .i64 ((((u.k + 1) : Nat) : Int))), (16, .int .i64 (((m : Nat) : Int))), (17, .bool true), (30, .bool false), (41, .int .i64 (((q.length : Nat) : Int))), (42, .int .i64 (((q.length : Nat) : Int))), (43, .bool ((decide ((((q.length : Nat) : Int) : Int) < (((q.length : Nat) : Int) : Int))))), (63, .int .i64 (((l.length : Nat) : Int))), (64, .int .i64 (((y.i : Nat) : Int))), (65, .bool ((decide ((((y.i : Nat) : Int) : Int) < (((l.length : Nat) : Int) : Int))))), (101, .bool ((decide (((((u.k + 1) : Nat) : Int) : Int) ≤ (((y.n : Nat) : Int) : Int)))))] ⟨rfl, rfl, rfl, rfl, rfl, rfl, rfl, rfl, rfl, rfl, rfl, rfl, rfl, rfl, rfl, rfl, rfl, rfl, rfl, rfl, trivial⟩ (by kernel_rfl) (by kernel_rfl) (by kernel_rfl) ?_ ?_
              · refine ⟨⟨true, .none rfl, fun h w => optUndef h, fun zβ za zw zc => ?_⟩, ?_⟩
                · exact wp_move rfl (zc.kn.ev rfl) ⟨_, rfl, Below.refl _ _, optDef zβ rfl⟩
                refine ⟨⟨true, .none rfl, fun h w => optUndef h, fun zβ za zw zc => ?_⟩, ?_⟩
                · exact wp_not rfl ((show za.eval (.tmp 109) = za.tmps.getD 109 undef from rfl).trans (optVal (zc.dep 0 109 (by kernel_rfl)) rfl rfl)) ⟨_, rfl, Below.refl _ _, optDef zβ rfl⟩
                refine ⟨⟨true, .none rfl, fun h w => optUndef h, fun zβ za zw zc => ?_⟩, ?_⟩
                · exact wp_move rfl ((show za.eval (.tmp 110) = za.tmps.getD 110 undef from rfl).trans (optVal (zc.dep 1 110 (by kernel_rfl)) rfl rfl)) ⟨_, rfl, Below.refl _ _, optDef zβ rfl⟩
                refine ⟨⟨(true && !false), .no (c := false) (d := true) rfl (fun v w h => h), fun h w => optUndef h, fun zβ za zw zc => ?_⟩, ?_⟩
                · exact wp_move rfl (zc.kn.ev rfl) ⟨_, rfl, Below.refl _ _, optDef zβ rfl⟩
                refine ⟨⟨(true && !false), .no (c := false) (d := true) rfl (fun v w h => h), fun h w => optUndef h, fun zβ za zw zc => ?_⟩, ?_⟩
                · exact lss_3 rfl ((show za.eval (.tmp 112) = za.tmps.getD 112 undef from rfl).trans (optVal (zc.dep 3 112 (by kernel_rfl)) rfl rfl)) (zc.kn.ev rfl) ⟨_, rfl, Below.refl _ _, optDef zβ rfl⟩
                refine ⟨⟨true, .none rfl, fun h w => optUndef h, fun zβ za zw zc => ?_⟩, ?_⟩
                · exact wp_pickF rfl ((show za.eval (.tmp 111) = za.tmps.getD 111 undef from rfl).trans (optVal (zc.dep 2 111 (by kernel_rfl)) rfl rfl)) ((show za.eval (.tmp 113) = za.tmps.getD 113 undef from rfl).trans (optVal (zc.dep 4 113 (by kernel_rfl)) rfl rfl)) ⟨_, rfl, Below.refl _ _, optDef zβ rfl⟩
                refine ⟨⟨true, .none rfl, fun h w => optUndef h, fun zβ za zw zc => ?_⟩, ?_⟩
                · exact wp_move rfl ((show za.eval (.tmp 114) = za.tmps.getD 114 undef from rfl).trans (optVal (zc.dep 5 114 (by kernel_rfl)) rfl rfl)) ⟨_, rfl, Below.refl _ _, optDef zβ rfl⟩
                refine ⟨⟨(true && !(decide ((((m : Nat) : Int) : Int) < (0 : Int)))), .no (c := (decide ((((m : Nat) : Int) : Int) < (0 : Int)))) (d := true) rfl (fun v w h => h), fun h w => optUndef h, fun zβ za zw zc => ?_⟩, ?_⟩
                · exact wp_move rfl (zc.kn.ev rfl) ⟨_, rfl, Below.refl _ _, optDef zβ rfl⟩
                refine ⟨⟨(true && !(decide ((((m : Nat) : Int) : Int) < (0 : Int)))), .no (c := (decide ((((m : Nat) : Int) : Int) < (0 : Int)))) (d := true) rfl (fun v w h => h), fun h w => optUndef h, fun zβ za zw zc => ?_⟩, ?_⟩
                · exact wp_move rfl (zc.kn.ev rfl) ⟨_, rfl, Below.refl _ _, optDef zβ rfl⟩
                refine ⟨⟨(true && !(decide ((((m : Nat) : Int) : Int) < (0 : Int)))), .no (c := (decide ((((m : Nat) : Int) : Int) < (0 : Int)))) (d := true) rfl (fun v w h => h), fun h w => optUndef h, fun zβ za zw zc => ?_⟩, ?_⟩
                · exact geq_3 rfl ((show za.eval (.tmp 116) = za.tmps.getD 116 undef from rfl).trans (optVal (zc.dep 7 116 (by kernel_rfl)) rfl zβ)) ((show za.eval (.tmp 117) = za.tmps.getD 117 undef from rfl).trans (optVal (zc.dep 8 117 (by kernel_rfl)) rfl zβ)) ⟨_, rfl, Below.refl _ _, optDef zβ rfl⟩
                refine ⟨⟨true, .none rfl, fun h w => optUndef h, fun zβ za zw zc => ?_⟩, ?_⟩
                · exact wp_or rfl ((show za.eval (.tmp 115) = za.tmps.getD 115 undef from rfl).trans (optVal (zc.dep 6 115 (by kernel_rfl)) rfl rfl)) (fun hp => ((show za.eval (.tmp 118) = za.tmps.getD 118 undef from rfl).trans (optVal (zc.dep 9 118 (by kernel_rfl)) rfl (bMkN zβ hp)))) ⟨_, rfl, Below.refl _ _, optDef zβ rfl⟩
                refine ⟨⟨true, .none rfl, fun h w => optUndef h, fun zβ za zw zc => ?_⟩, ?_⟩
                · exact wp_move rfl ((show za.eval (.tmp 119) = za.tmps.getD 119 undef from rfl).trans (optVal (zc.dep 10 119 (by kernel_rfl)) rfl rfl)) ⟨_, rfl, Below.refl _ _, optDef zβ rfl⟩
                refine ⟨⟨(true && !((decide ((((m : Nat) : Int) : Int) < (0 : Int))) || (decide ((((y.n : Nat) : Int) : Int) ≤ (((m : Nat) : Int) : Int))))), .no (c := ((decide ((((m : Nat) : Int) : Int) < (0 : Int))) || (decide ((((y.n : Nat) : Int) : Int) ≤ (((m : Nat) : Int) : Int))))) (d := true) rfl (fun v w h => h), fun h w => optUndef h, fun zβ za zw zc => ?_⟩, ?_⟩
                · exact wp_move rfl (zc.kn.ev rfl) ⟨_, rfl, Below.refl _ _, optDef zβ rfl⟩
                refine ⟨⟨(true && !((decide ((((m : Nat) : Int) : Int) < (0 : Int))) || (decide ((((y.n : Nat) : Int) : Int) ≤ (((m : Nat) : Int) : Int))))), .no (c := ((decide ((((m : Nat) : Int) : Int) < (0 : Int))) || (decide ((((y.n : Nat) : Int) : Int) ≤ (((m : Nat) : Int) : Int))))) (d := true) rfl (fun v w h => h), fun h w => optUndef h, fun zβ za zw zc => ?_⟩, ?_⟩
                · exact wp_move rfl (zc.kn.ev rfl) ⟨_, rfl, Below.refl _ _, optDef zβ rfl⟩
                refine ⟨⟨(true && !((decide ((((m : Nat) : Int) : Int) < (0 : Int))) || (decide ((((y.n : Nat) : Int) : Int) ≤ (((m : Nat) : Int) : Int))))), .no (c := ((decide ((((m : Nat) : Int) : Int) < (0 : Int))) || (decide ((((y.n : Nat) : Int) : Int) ≤ (((m : Nat) : Int) : Int))))) (d := true) rfl (fun v w h => h), fun h w => optUndef h, fun zβ za zw zc => ?_⟩, ?_⟩
                · exact ix_32 (k := m) rfl ((show za.eval (.tmp 121) = za.tmps.getD 121 undef from rfl).trans (optVal (zc.dep 12 121 (by kernel_rfl)) rfl zβ)) rfl ((show za.eval (.tmp 122) = za.tmps.getD 122 undef from rfl).trans (optVal (zc.dep 13 122 (by kernel_rfl)) rfl zβ)) (by first | omega | (have zz := zβ; simp only [Bool.and_eq_true, Bool.or_eq_true, Bool.true_and, Bool.not_eq_true', Bool.or_eq_false_iff, Bool.and_eq_false_iff, beq_eq_false_iff_ne, ne_eq, beq_iff_eq, decide_eq_true_eq, decide_eq_false_iff_not, bne_iff_ne] at zz; omega)) ⟨_, rfl, Below.refl _ _, optDef zβ rfl⟩
                refine ⟨⟨(true && !((decide ((((m : Nat) : Int) : Int) < (0 : Int))) || (decide ((((y.n : Nat) : Int) : Int) ≤ (((m : Nat) : Int) : Int))))), .no (c := ((decide ((((m : Nat) : Int) : Int) < (0 : Int))) || (decide ((((y.n : Nat) : Int) : Int) ≤ (((m : Nat) : Int) : Int))))) (d := true) rfl (fun v w h => h), fun h w => optUndef h, fun zβ za zw zc => ?_⟩, ?_⟩
                · exact ld_4 rfl ((show za.eval (.tmp 123) = za.tmps.getD 123 undef from rfl).trans (optVal (zc.dep 14 123 (by kernel_rfl)) rfl zβ)) (bkeeps zc.below _ _ (BRow.cell hBR2 (i := m) (by omega))) ⟨_, rfl, Below.refl _ _, optDef zβ rfl⟩
                refine ⟨⟨true, .none rfl, fun h w => optUndef h, fun zβ za zw zc => ?_⟩, ?_⟩
                · exact wp_or rfl ((show za.eval (.tmp 120) = za.tmps.getD 120 undef from rfl).trans (optVal (zc.dep 11 120 (by kernel_rfl)) rfl rfl)) (fun hp => ((show za.eval (.tmp 124) = za.tmps.getD 124 undef from rfl).trans (optVal (zc.dep 15 124 (by kernel_rfl)) rfl (bMkN zβ hp)))) ⟨_, rfl, Below.refl _ _, optDef zβ rfl⟩
                refine ⟨⟨true, .none rfl, fun h w => optUndef h, fun zβ za zw zc => ?_⟩, ?_⟩
                · exact wp_move rfl ((show za.eval (.tmp 125) = za.tmps.getD 125 undef from rfl).trans (optVal (zc.dep 16 125 (by kernel_rfl)) rfl rfl)) ⟨_, rfl, Below.refl _ _, optDef zβ rfl⟩
                refine ⟨⟨(true && !(((decide ((((m : Nat) : Int) : Int) < (0 : Int))) || (decide ((((y.n : Nat) : Int) : Int) ≤ (((m : Nat) : Int) : Int)))) || (u.met m))), .no (c := (((decide ((((m : Nat) : Int) : Int) < (0 : Int))) || (decide ((((y.n : Nat) : Int) : Int) ≤ (((m : Nat) : Int) : Int)))) || (u.met m))) (d := true) rfl (fun v w h => h), fun h w => optUndef h, fun zβ za zw zc => ?_⟩, ?_⟩
                · exact wp_move rfl (zc.kn.ev rfl) ⟨_, rfl, Below.refl _ _, optDef zβ rfl⟩
                refine ⟨⟨(true && !(((decide ((((m : Nat) : Int) : Int) < (0 : Int))) || (decide ((((y.n : Nat) : Int) : Int) ≤ (((m : Nat) : Int) : Int)))) || (u.met m))), .no (c := (((decide ((((m : Nat) : Int) : Int) < (0 : Int))) || (decide ((((y.n : Nat) : Int) : Int) ≤ (((m : Nat) : Int) : Int)))) || (u.met m))) (d := true) rfl (fun v w h => h), fun h w => optUndef h, fun zβ za zw zc => ?_⟩, ?_⟩
                · exact wp_move rfl ((show za.eval (.tmp 127) = za.tmps.getD 127 undef from rfl).trans (optVal (zc.dep 18 127 (by kernel_rfl)) rfl zβ)) ⟨_, rfl, Below.refl _ _, optDef zβ rfl⟩
                refine ⟨⟨((true && !(((decide ((((m : Nat) : Int) : Int) < (0 : Int))) || (decide ((((y.n : Nat) : Int) : Int) ≤ (((m : Nat) : Int) : Int)))) || (u.met m))) && (ageP q q.length)), .yes (c := (ageP q q.length)) (d := (true && !(((decide ((((m : Nat) : Int) : Int) < (0 : Int))) || (decide ((((y.n : Nat) : Int) : Int) ≤ (((m : Nat) : Int) : Int)))) || (u.met m)))) rfl (fun v w h => h), fun h w => optUndef h, fun zβ za zw zc => ?_⟩, ?_⟩
                · exact wp_move rfl (zc.kn.ev rfl) ⟨_, rfl, Below.refl _ _, optDef zβ rfl⟩
                refine ⟨⟨((true && !(((decide ((((m : Nat) : Int) : Int) < (0 : Int))) || (decide ((((y.n : Nat) : Int) : Int) ≤ (((m : Nat) : Int) : Int)))) || (u.met m))) && (ageP q q.length)), .yes (c := (ageP q q.length)) (d := (true && !(((decide ((((m : Nat) : Int) : Int) < (0 : Int))) || (decide ((((y.n : Nat) : Int) : Int) ≤ (((m : Nat) : Int) : Int)))) || (u.met m)))) rfl (fun v w h => h), fun h w => optUndef h, fun zβ za zw zc => ?_⟩, ?_⟩
                · exact wp_move rfl (zc.kn.ev rfl) ⟨_, rfl, Below.refl _ _, optDef zβ rfl⟩
                refine ⟨⟨((true && !(((decide ((((m : Nat) : Int) : Int) < (0 : Int))) || (decide ((((y.n : Nat) : Int) : Int) ≤ (((m : Nat) : Int) : Int)))) || (u.met m))) && (ageP q q.length)), .yes (c := (ageP q q.length)) (d := (true && !(((decide ((((m : Nat) : Int) : Int) < (0 : Int))) || (decide ((((y.n : Nat) : Int) : Int) ≤ (((m : Nat) : Int) : Int)))) || (u.met m)))) rfl (fun v w h => h), fun h w => optUndef h, fun zβ za zw zc => ?_⟩, ?_⟩
                · exact addb_3 rfl ((show za.eval (.tmp 130) = za.tmps.getD 130 undef from rfl).trans (optVal (zc.dep 21 130 (by kernel_rfl)) rfl zβ)) (zc.kn.ev rfl) (wrap_eq (by omega) (by omega) (by omega)) ⟨_, rfl, Below.refl _ _, optDef zβ rfl⟩
                refine ⟨⟨((true && !(((decide ((((m : Nat) : Int) : Int) < (0 : Int))) || (decide ((((y.n : Nat) : Int) : Int) ≤ (((m : Nat) : Int) : Int)))) || (u.met m))) && (ageP q q.length)), .yes (c := (ageP q q.length)) (d := (true && !(((decide ((((m : Nat) : Int) : Int) < (0 : Int))) || (decide ((((y.n : Nat) : Int) : Int) ≤ (((m : Nat) : Int) : Int)))) || (u.met m)))) rfl (fun v w h => h), fun h w => optUndef h, fun zβ za zw zc => ?_⟩, ?_⟩
                · exact wp_move rfl (zc.kn.ev rfl) ⟨_, rfl, Below.refl _ _, optDef zβ rfl⟩
                refine ⟨⟨((true && !(((decide ((((m : Nat) : Int) : Int) < (0 : Int))) || (decide ((((y.n : Nat) : Int) : Int) ≤ (((m : Nat) : Int) : Int)))) || (u.met m))) && (ageP q q.length)), .yes (c := (ageP q q.length)) (d := (true && !(((decide ((((m : Nat) : Int) : Int) < (0 : Int))) || (decide ((((y.n : Nat) : Int) : Int) ≤ (((m : Nat) : Int) : Int)))) || (u.met m)))) rfl (fun v w h => h), fun h w => optUndef h, fun zβ za zw zc => ?_⟩, ?_⟩
                · exact mulb_3 rfl ((show za.eval (.tmp 131) = za.tmps.getD 131 undef from rfl).trans (optVal (zc.dep 22 131 (by kernel_rfl)) rfl zβ)) ((show za.eval (.tmp 132) = za.tmps.getD 132 undef from rfl).trans (optVal (zc.dep 23 132 (by kernel_rfl)) rfl zβ)) (wrap_eq rfl (by omega) (by omega)) ⟨_, rfl, Below.refl _ _, optDef zβ rfl⟩
                refine ⟨⟨((true && !(((decide ((((m : Nat) : Int) : Int) < (0 : Int))) || (decide ((((y.n : Nat) : Int) : Int) ≤ (((m : Nat) : Int) : Int)))) || (u.met m))) && (ageP q q.length)), .yes (c := (ageP q q.length)) (d := (true && !(((decide ((((m : Nat) : Int) : Int) < (0 : Int))) || (decide ((((y.n : Nat) : Int) : Int) ≤ (((m : Nat) : Int) : Int)))) || (u.met m)))) rfl (fun v w h => h), fun h w => optUndef h, fun zβ za zw zc => ?_⟩, ?_⟩
                · exact gtr_3 rfl ((show za.eval (.tmp 129) = za.tmps.getD 129 undef from rfl).trans (optVal (zc.dep 20 129 (by kernel_rfl)) rfl zβ)) ((show za.eval (.tmp 133) = za.tmps.getD 133 undef from rfl).trans (optVal (zc.dep 24 133 (by kernel_rfl)) rfl zβ)) ⟨_, rfl, Below.refl _ _, optDef zβ rfl⟩
                refine ⟨⟨(true && !(((decide ((((m : Nat) : Int) : Int) < (0 : Int))) || (decide ((((y.n : Nat) : Int) : Int) ≤ (((m : Nat) : Int) : Int)))) || (u.met m))), .no (c := (((decide ((((m : Nat) : Int) : Int) < (0 : Int))) || (decide ((((y.n : Nat) : Int) : Int) ≤ (((m : Nat) : Int) : Int)))) || (u.met m))) (d := true) rfl (fun v w h => h), fun h w => optUndef h, fun zβ za zw zc => ?_⟩, ?_⟩
                · exact wp_and rfl ((show za.eval (.tmp 128) = za.tmps.getD 128 undef from rfl).trans (optVal (zc.dep 19 128 (by kernel_rfl)) rfl zβ)) (fun hp => ((show za.eval (.tmp 134) = za.tmps.getD 134 undef from rfl).trans (optVal (zc.dep 25 134 (by kernel_rfl)) rfl (bMk zβ hp)))) ⟨_, rfl, Below.refl _ _, optDef zβ rfl⟩
                refine ⟨⟨true, .none rfl, fun h w => optUndef h, fun zβ za zw zc => ?_⟩, ?_⟩
                · exact wp_or rfl ((show za.eval (.tmp 126) = za.tmps.getD 126 undef from rfl).trans (optVal (zc.dep 17 126 (by kernel_rfl)) rfl rfl)) (fun hp => ((show za.eval (.tmp 135) = za.tmps.getD 135 undef from rfl).trans (optVal (zc.dep 26 135 (by kernel_rfl)) rfl (bMkN zβ hp)))) ⟨_, rfl, Below.refl _ _, optDef zβ rfl⟩
                exact trivial
              · intro za w47 zh hb48 zu
                have zh := zh.cons (d := 136) (v := .bool (((((decide ((((m : Nat) : Int) : Int) < (0 : Int))) || (decide ((((y.n : Nat) : Int) : Int) ≤ (((m : Nat) : Int) : Int)))) || (u.met m)) || ((ageP q q.length) && (decide ((((m : Int) + 2) * (sumT q q.length) : Int) < ((((u.k + 1) : Nat) : Int) : Int))))))) (optVal (zu 27 136 (by kernel_rfl)) rfl rfl)
                clear zu
                refine (show WE _ [(0, .slice qa q.length qc), (1, .slice a l.length c), (2, .slice a2 gs.length c2), (7, .pointer (some ⟨r, 0, none⟩)), (8, .int .i64 0), (9, .int .i64 ((sumT q q.length))), (10, .bool ((ageP q q.length))), (12, .int .i64 (((y.n : Nat) : Int))), (14, .slice ((some ⟨mg, 0, none⟩)) y.n y.n), (15, .int .i64 ((((u.k + 1) : Nat) : Int))), (16, .int .i64 (((m : Nat) : Int))), (17, .bool true), (30, .bool false), (41, .int .i64 (((q.length : Nat) : Int))), (42, .int .i64 (((q.length : Nat) : Int))), (43, .bool ((decide ((((q.length : Nat) : Int) : Int) < (((q.length : Nat) : Int) : Int))))), (63, .int .i64 (((l.length : Nat) : Int))), (64, .int .i64 (((y.i : Nat) : Int))), (65, .bool ((decide ((((y.i : Nat) : Int) : Int) < (((l.length : Nat) : Int) : Int))))), (101, .bool ((decide (((((u.k + 1) : Nat) : Int) : Int) ≤ (((y.n : Nat) : Int) : Int))))), (136, .bool (((((decide ((((m : Nat) : Int) : Int) < (0 : Int))) || (decide ((((y.n : Nat) : Int) : Int) ≤ (((m : Nat) : Int) : Int)))) || (u.met m)) || ((ageP q q.length) && (decide ((((m : Int) + 2) * (sumT q q.length) : Int) < ((((u.k + 1) : Nat) : Int) : Int)))))))] w47 _ .normal from ?_) za (zh.sub ⟨rfl, rfl, rfl, rfl, rfl, rfl, rfl, rfl, rfl, rfl, rfl, rfl, rfl, rfl, rfl, rfl, rfl, rfl, rfl, rfl, rfl, trivial⟩)
                refine WE.next ?_
                refine WC.condF rfl (by
                    have q1 : decide ((m : Int) < 0) = false := by rw [decide_eq_false_iff_not]; omega
                    have q2 : decide ((y.n : Int) ≤ (m : Int)) = false := by rw [decide_eq_false_iff_not]; omega
                    have q3 : (ageP q q.length && decide (((m : Int) + 2) * (sumT q q.length) < ((u.k + 1 : Nat) : Int))) = false := by
                      cases ha : ageP q q.length with
                      | false => rfl
                      | true => rw [Bool.true_and, decide_eq_false_iff_not]; have z9 := hage ha; omega
                    rw [q1, q2, hmet, q3]; rfl) ?_
                refine WC.skip ?_
                refine WE.next ?_
                refine WC.region ?_
                refine WL.val (.slice ((some ⟨mg, 0, none⟩)) y.n y.n) rfl rfl rfl (fun za zC zh zk => wp_move rfl (zh.ev rfl) zk) ?_
                refine WL.val (.int .i64 (((m : Nat) : Int))) rfl rfl rfl (fun za zC zh zk => wp_move rfl (zh.ev rfl) zk) ?_
                refine WL.val (.pointer (some ⟨mg, 0 + m, none⟩)) rfl rfl rfl (fun za zC zh zk => ix_32 (k := m) rfl (zh.ev rfl) rfl (zh.ev rfl) (by first | omega | (simp; omega)) zk) ?_
                have ho49 := hBR2.below hb48
                have hFS54 := hFS2.below hb48
                refine WL.step (post := fun _ w' => Upd mg w47 w' ∧ BRow w' 4 mg y.n (fun i => if i = m then true else u.met i)) rfl rfl rfl (fun za zC zh zk => st_4 rfl (zh.ev rfl) (zh.ev rfl) (ho49).blk (BRow.size ho49 (j := m) (by omega)) (fun v => zk v _ ⟨Upd.at_ _ _ _ _, BRow.set ho49 true hmn⟩)) ?_
                rintro v53 w50 ⟨hu51, hM52⟩
                have hb55 : Below w.heap.size w w47 := (bstep hb46 hb48)
                have hb56 := upd_below hb55 hu51 (by omega)
                have hFS57 := FS.chg hFS54 (.ofUpd (S := fun b => b = mg) hu51 rfl) (fun b v e => hZ2m (e ▸ v))
                refine WL.nil (WE.sub (K' := [(0, .slice qa q.length qc), (1, .slice a l.length c), (2, .slice a2 gs.length c2), (7, .pointer (some ⟨r, 0, none⟩)), (8, .int .i64 0), (9, .int .i64 ((sumT q q.length))), (10, .bool ((ageP q q.length))), (12, .int .i64 (((y.n : Nat) : Int))), (14, .slice ((some ⟨mg, 0, none⟩)) y.n y.n), (15, .int .i64 ((((u.k + 1) : Nat) : Int))), (16, .int .i64 (((m : Nat) : Int))), (17, .bool true), (30, .bool false), (41, .int .i64 (((q.length : Nat) : Int))), (42, .int .i64 (((q.length : Nat) : Int))), (43, .bool ((decide ((((q.length : Nat) : Int) : Int) < (((q.length : Nat) : Int) : Int))))), (63, .int .i64 (((l.length : Nat) : Int))), (64, .int .i64 (((y.i : Nat) : Int))), (65, .bool ((decide ((((y.i : Nat) : Int) : Int) < (((l.length : Nat) : Int) : Int))))), (101, .bool ((decide (((((u.k + 1) : Nat) : Int) : Int) ≤ (((y.n : Nat) : Int) : Int))))), (136, .bool (((((decide ((((m : Nat) : Int) : Int) < (0 : Int))) || (decide ((((y.n : Nat) : Int) : Int) ≤ (((m : Nat) : Int) : Int)))) || (u.met m)) || ((ageP q q.length) && (decide ((((m : Int) + 2) * (sumT q q.length) : Int) < ((((u.k + 1) : Nat) : Int) : Int)))))))]) ⟨rfl, rfl, rfl, rfl, rfl, rfl, rfl, rfl, rfl, rfl, rfl, rfl, rfl, rfl, rfl, rfl, rfl, rfl, rfl, rfl, rfl, trivial⟩ ?_)
                refine WE.blockNormal ?_
                refine WE.next ?_
                refine WC.region ?_
                refine WL.val (.int .i64 ((((u.k + 1) : Nat) : Int))) rfl rfl rfl (fun za zC zh zk => wp_move rfl (zh.ev rfl) zk) ?_
                refine WL.val (.int .i64 (((((u.k + 1) + 1) : Nat) : Int))) rfl rfl rfl (fun za zC zh zk => addb_3 rfl (zh.ev rfl) (zh.ev rfl) (wrap_eq (by omega) (by omega) (by omega)) zk) ?_
                refine WL.val (.int .i64 (((((u.k + 1) + 1) : Nat) : Int))) rfl rfl rfl (fun za zC zh zk => wp_assign rfl (zh.ev rfl) zk) ?_
                refine WL.nil (WE.sub (K' := [(0, .slice qa q.length qc), (1, .slice a l.length c), (2, .slice a2 gs.length c2), (7, .pointer (some ⟨r, 0, none⟩)), (8, .int .i64 0), (9, .int .i64 ((sumT q q.length))), (10, .bool ((ageP q q.length))), (12, .int .i64 (((y.n : Nat) : Int))), (14, .slice ((some ⟨mg, 0, none⟩)) y.n y.n), (15, .int .i64 (((((u.k + 1) + 1) : Nat) : Int))), (16, .int .i64 (((m : Nat) : Int))), (17, .bool true), (30, .bool false), (41, .int .i64 (((q.length : Nat) : Int))), (42, .int .i64 (((q.length : Nat) : Int))), (43, .bool ((decide ((((q.length : Nat) : Int) : Int) < (((q.length : Nat) : Int) : Int))))), (63, .int .i64 (((l.length : Nat) : Int))), (64, .int .i64 (((y.i : Nat) : Int))), (65, .bool ((decide ((((y.i : Nat) : Int) : Int) < (((l.length : Nat) : Int) : Int))))), (101, .bool ((decide (((((u.k + 1) : Nat) : Int) : Int) ≤ (((y.n : Nat) : Int) : Int))))), (136, .bool (((((decide ((((m : Nat) : Int) : Int) < (0 : Int))) || (decide ((((y.n : Nat) : Int) : Int) ≤ (((m : Nat) : Int) : Int)))) || (u.met m)) || ((ageP q q.length) && (decide ((((m : Int) + 2) * (sumT q q.length) : Int) < ((((u.k + 1) : Nat) : Int) : Int)))))))]) ⟨rfl, rfl, rfl, rfl, rfl, rfl, rfl, rfl, rfl, rfl, rfl, rfl, rfl, rfl, rfl, rfl, rfl, rfl, rfl, rfl, rfl, trivial⟩ ?_)
                refine WE.round (⟨u.k + 1, (fun i => if i = m then true else u.met i), Z2, ws2, at2, dn2⟩) ⟨rfl, rfl, rfl, rfl, rfl, rfl, rfl, rfl, rfl, rfl, rfl, rfl, rfl, rfl, rfl, rfl, rfl, trivial⟩ ?_ ?_
                · exact ⟨by (try dsimp only); omega, hFS57, hM52, hZ2m, hb56⟩
                · (try dsimp only); omega
            · have h44 : ¬ (((((u.k + 1) : Nat) : Int) : Int) ≤ (((y.n : Nat) : Int) : Int)) := by simpa using h44
              refine WC.exit ?_
              refine WE.thenExit ?_
              refine WE.thenExit ?_
              refine WE.blockIs rfl ?_
              refine WE.next ?_
              refine WC.seq ?_
              refine WC.region ?_
              refine WL.val (.pointer (some ⟨r, 0, none⟩)) rfl rfl rfl (fun za zC zh zk => wp_move rfl (zh.ev rfl) zk) ?_
              have hkn : u.k = y.n := by omega
              have hFE := hFS
              rw [hkn] at hFE
              refine WL.call rfl rfl rfl (fun za zh zC => wp_call (by kernel_rfl) rfl (hv1 (zh.ev rfl))) (fair_end _ hFE hyn) ?_
              rintro _ w59 ⟨rfl, hq58⟩
              refine WL.val (.tuple #[.int .i64 0, .bool false]) rfl rfl rfl (fun za zC zh zk => wp_move rfl (zh.ev rfl) zk) ?_
              refine WL.val (.int .i64 0) rfl rfl rfl (fun za zC zh zk => ext2_0 rfl (zh.ev rfl) zk) ?_
              refine WL.val (.bool false) rfl rfl rfl (fun za zC zh zk => ext2_1 rfl (zh.ev rfl) zk) ?_
              refine WL.val (.int .i64 0) rfl rfl rfl (fun za zC zh zk => wp_assign rfl (zh.ev rfl) zk) ?_
              refine WL.val (.bool false) rfl rfl rfl (fun za zC zh zk => wp_assign rfl (zh.ev rfl) zk) ?_
              refine WL.nil (WE.sub (K' := [(0, .slice qa q.length qc), (1, .slice a l.length c), (2, .slice a2 gs.length c2), (7, .pointer (some ⟨r, 0, none⟩)), (8, .int .i64 0), (9, .int .i64 ((sumT q q.length))), (10, .bool ((ageP q q.length))), (12, .int .i64 (((y.n : Nat) : Int))), (14, .slice ((some ⟨mg, 0, none⟩)) y.n y.n), (15, .int .i64 ((((u.k + 1) : Nat) : Int))), (19, .bool false), (30, .bool false), (41, .int .i64 (((q.length : Nat) : Int))), (42, .int .i64 (((q.length : Nat) : Int))), (43, .bool ((decide ((((q.length : Nat) : Int) : Int) < (((q.length : Nat) : Int) : Int))))), (63, .int .i64 (((l.length : Nat) : Int))), (64, .int .i64 (((y.i : Nat) : Int))), (65, .bool ((decide ((((y.i : Nat) : Int) : Int) < (((l.length : Nat) : Int) : Int))))), (101, .bool ((decide (((((u.k + 1) : Nat) : Int) : Int) ≤ (((y.n : Nat) : Int) : Int)))))]) ⟨rfl, rfl, rfl, rfl, rfl, rfl, rfl, rfl, rfl, rfl, rfl, rfl, rfl, rfl, rfl, rfl, rfl, rfl, rfl, trivial⟩ ?_)
              refine WE.next ?_
              refine WC.seq ?_
              refine WC.opt [(true, .val (.bool false)), (true, .val (.bool true)), (true, .val (.bool true)), ((true && true), .val (.bool true)), (true, .val (.bool true)), (true, .val (.bool true))] [(0, .slice qa q.length qc), (1, .slice a l.length c), (2, .slice a2 gs.length c2), (7, .pointer (some ⟨r, 0, none⟩)), (8, .int .i64 0), (9, .int .i64 ((sumT q q.length))), (10, .bool ((ageP q q.length))), (12, .int .i64 (((y.n : Nat) : Int))), (14, .slice ((some ⟨mg, 0, none⟩)) y.n y.n), (15, .int .i64 ((((u.k + 1) : Nat) : Int))), (19, .bool false), (30, .bool false), (41, .int .i64 (((q.length : Nat) : Int))), (42, .int .i64 (((q.length : Nat) : Int))), (43, .bool ((decide ((((q.length : Nat) : Int) : Int) < (((q.length : Nat) : Int) : Int))))), (63, .int .i64 (((l.length : Nat) : Int))), (64, .int .i64 (((y.i : Nat) : Int))), (65, .bool ((decide ((((y.i : Nat) : Int) : Int) < (((l.length : Nat) : Int) : Int))))), (101, .bool ((decide (((((u.k + 1) : Nat) : Int) : Int) ≤ (((y.n : Nat) : Int) : Int)))))] ⟨rfl, rfl, rfl, rfl, rfl, rfl, rfl, rfl, rfl, rfl, rfl, rfl, rfl, rfl, rfl, rfl, rfl, rfl, rfl, trivial⟩ (by kernel_rfl) (by kernel_rfl) (by kernel_rfl) ?_ ?_
              · refine ⟨⟨true, .none rfl, fun h w => optUndef h, fun zβ za zw zc => ?_⟩, ?_⟩
                · exact wp_move rfl (zc.kn.ev rfl) ⟨_, rfl, Below.refl _ _, optDef zβ rfl⟩
                refine ⟨⟨true, .none rfl, fun h w => optUndef h, fun zβ za zw zc => ?_⟩, ?_⟩
                · exact wp_not rfl ((show za.eval (.tmp 145) = za.tmps.getD 145 undef from rfl).trans (optVal (zc.dep 0 145 (by kernel_rfl)) rfl rfl)) ⟨_, rfl, Below.refl _ _, optDef zβ rfl⟩
                refine ⟨⟨true, .none rfl, fun h w => optUndef h, fun zβ za zw zc => ?_⟩, ?_⟩
                · exact wp_move rfl ((show za.eval (.tmp 146) = za.tmps.getD 146 undef from rfl).trans (optVal (zc.dep 1 146 (by kernel_rfl)) rfl rfl)) ⟨_, rfl, Below.refl _ _, optDef zβ rfl⟩
                refine ⟨⟨(true && true), .yes (c := true) (d := true) rfl (fun v w h => h), fun h w => optUndef h, fun zβ za zw zc => ?_⟩, ?_⟩
                · exact wp_call (by kernel_rfl) rfl (hv0) (wakes_any _) (fun v w' h => ⟨v, rfl, h.2, optDef zβ h.1⟩)
                refine ⟨⟨true, .none rfl, fun h w => optUndef h, fun zβ za zw zc => ?_⟩, ?_⟩
                · exact wp_pickT rfl ((show za.eval (.tmp 147) = za.tmps.getD 147 undef from rfl).trans (optVal (zc.dep 2 147 (by kernel_rfl)) rfl rfl)) ((show za.eval (.tmp 148) = za.tmps.getD 148 undef from rfl).trans (optVal (zc.dep 3 148 (by kernel_rfl)) rfl rfl)) ⟨_, rfl, Below.refl _ _, optDef zβ rfl⟩
                refine ⟨⟨true, .none rfl, fun h w => optUndef h, fun zβ za zw zc => ?_⟩, ?_⟩
                · exact wp_assign rfl ((show za.eval (.tmp 149) = za.tmps.getD 149 undef from rfl).trans (optVal (zc.dep 4 149 (by kernel_rfl)) rfl rfl)) ⟨_, rfl, Below.refl _ _, optDef zβ rfl⟩
                exact trivial
              · intro za w61 zh hb62 zu
                have zh := zh.cons (d := 6) (v := .bool true) (optVal (zu 5 6 (by kernel_rfl)) rfl rfl)
                clear zu
                refine (show WE _ [(0, .slice qa q.length qc), (1, .slice a l.length c), (2, .slice a2 gs.length c2), (6, .bool true), (7, .pointer (some ⟨r, 0, none⟩)), (8, .int .i64 0), (9, .int .i64 ((sumT q q.length))), (10, .bool ((ageP q q.length))), (12, .int .i64 (((y.n : Nat) : Int))), (14, .slice ((some ⟨mg, 0, none⟩)) y.n y.n), (15, .int .i64 ((((u.k + 1) : Nat) : Int))), (19, .bool false), (30, .bool false), (41, .int .i64 (((q.length : Nat) : Int))), (42, .int .i64 (((q.length : Nat) : Int))), (43, .bool ((decide ((((q.length : Nat) : Int) : Int) < (((q.length : Nat) : Int) : Int))))), (63, .int .i64 (((l.length : Nat) : Int))), (64, .int .i64 (((y.i : Nat) : Int))), (65, .bool ((decide ((((y.i : Nat) : Int) : Int) < (((l.length : Nat) : Int) : Int))))), (101, .bool ((decide (((((u.k + 1) : Nat) : Int) : Int) ≤ (((y.n : Nat) : Int) : Int)))))] w61 _ .normal from ?_) za (zh.sub ⟨rfl, rfl, rfl, rfl, rfl, rfl, rfl, rfl, rfl, rfl, rfl, rfl, rfl, rfl, rfl, rfl, rfl, rfl, rfl, rfl, trivial⟩)
                refine WE.next ?_
                refine WC.ret ?_
                refine WE.ret1 rfl rfl ?_
                have hb63 : Below w.heap.size w w61 := (bstep (bstep hb43 hq58) hb62)
                exact ⟨_, rfl, rfl, hb63⟩

theorem fair_any (q : List Qu) (w : World) (qa : Option Addr) (qc : Nat) (hq : IsQs w q qa) (hqc : q.length ≤ qc) (l : List (List Li)) (a : Option Addr) (c : Nat) (hl : IsCls w l a) (hlz : l.length ≤ 1048576) (gs : List Bool) (a2 : Option Addr) (c2 : Nat) (hg : IsBs w gs a2) (hgz : gs.length ≤ 1048576) : Calls Try.prog 4 #[.slice qa q.length qc, .slice a l.length c, .slice a2 gs.length c2] w (Ret fun v' w' => v' = .bool true ∧ Below w.heap.size w w') := by
  cases hqs : qsOk q with
  | false => exact fair_bad q w qa qc hq hqc l.length a c gs.length a2 c2 hqs
  | true => exact fair_good q w qa qc hq hqc l a c hl hlz gs a2 c2 hg hgz hqs
end Go.Proofs.Ytjhkoiggeepajaa
