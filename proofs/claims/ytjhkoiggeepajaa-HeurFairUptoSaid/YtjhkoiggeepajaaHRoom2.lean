/- A room: a clause is added. -/
import Derived.Test.YtjhkoiggeepajaaHRoom
namespace Go.Proofs.Ytjhkoiggeepajaa
open Go.RowKit Go
set_option linter.unusedVariables false
set_option linter.unusedSimpArgs false

/-- Where a push stands, in a region in whatever order. -/
def PushG (B h : Nat) (S : Nat → Prop) (L : List It) (x : It) : List Value → World → Prop
  | [], w => HeapAt w h S L
  | _, w => ∃ L', L'.Perm (L ++ [x]) ∧ IsHeap L' ∧ HeapAt w h (fun b => S b ∨ B ≤ b) L'
theorem PushG.below {B h : Nat} {S : Nat → Prop} {L : List It} {x : It} (vals : List Value) (w w' : World) (hb : Below w.heap.size w w') (k : PushG B h S L x vals w) : PushG B h S L x vals w' := by
  match vals, k with
  | [], k => exact HeapAt.below k hb
  | _ :: _, k => obtain ⟨L', h1, h2, h3⟩ := k; exact ⟨L', h1, h2, h3.below hb⟩
set_option maxRecDepth 100000 in
theorem add_any (n : Int) (l : List Li) (goal : Bool) (a : Option Addr) (c : Nat) (r : Nat) (Z : Nat → Prop) (q : List Qu) (ws : List Wt) (times at_ dn : Nat) (w : World) (hR0 : RoomIs w r Z q ws times at_ dn) (hl : ∀ w', Chg (fun b => Z b ∨ w.heap.size ≤ b) w w' → IsCl w' l a c) (hlz : l.length ≤ 1048576) (htm : times < 1000000) :
    Calls Try.prog 12 #[.pointer (some ⟨r, 0, none⟩), .int .i64 n, .slice a l.length c, .bool goal] w (Ret fun v' w' => ((n < 0 ∨ tmOf ws n ≠ 0) ∧ v' = .int .i64 2 ∧ Below w.heap.size w w') ∨ (0 ≤ n ∧ tmOf ws n = 0 ∧ v' = .int .i64 0 ∧ RoomIs w' r (fun b => Z b ∨ w.heap.size ≤ b) q (ws ++ [⟨n, times + 1, l, goal⟩]) (times + 1) at_ dn ∧ Chg Z w w')) := by
  obtain ⟨mb, gq, gh, qc, hcp, hb, S, Ls, es, cl, hB, hQ, hH, hM, hE, hP, ⟨zr1, zr2, zr3, zr4, zr5, zr6⟩, hR⟩ := hR0.ex
  have hok := hR0.ok
  obtain ⟨hq1, hq8, hqk⟩ := qsOk_at hR0.qs
  have hat := hR0.at_lt
  have hdn := hR0.dn_lt
  have hrm := hM.neBlk hB
  have hrq : r ≠ gq := by obtain ⟨c1, q⟩ := hQ.blk; exact blk_ne hB q (by decide)
  have hrh : r ≠ gh := by obtain ⟨c1, q⟩ := hH.blk; exact blk_ne hB q (by decide)
  have hqm : gq ≠ mb := by obtain ⟨c1, q⟩ := hQ.blk; exact hM.neBlk q
  have hhm : gh ≠ mb := by obtain ⟨c1, q⟩ := hH.blk; exact hM.neBlk q
  have hC0 := Chg.refl Z w
  refine Calls.walk (l := [.pointer (some ⟨r, 0, none⟩), .int .i64 n, .slice a l.length c, .bool goal]) Try.func12 rfl (by kernel_rfl) ?_
  refine WC.sub (K' := [(0, .pointer (some ⟨r, 0, none⟩)), (1, .int .i64 n), (2, .slice a l.length c), (3, .bool goal)]) ⟨rfl, rfl, rfl, rfl, trivial⟩ ?_
  refine WC.seq ?_
  refine WC.region ?_
  refine WL.val (.int .i64 0) rfl rfl rfl (fun za zC zh zk => wp_assign rfl (zh.ev rfl) zk) ?_
  refine WL.nil (WE.sub (K' := [(0, .pointer (some ⟨r, 0, none⟩)), (1, .int .i64 n), (2, .slice a l.length c), (3, .bool goal), (8, .int .i64 0)]) ⟨rfl, rfl, rfl, rfl, rfl, trivial⟩ ?_)
  refine WE.next ?_
  refine WC.seq ?_
  refine WC.seq ?_
  refine WC.region ?_
  refine WL.val (.pointer (some ⟨r, 0, none⟩)) rfl rfl rfl (fun za zC zh zk => wp_move rfl (zh.ev rfl) zk) ?_
  refine WL.val (.bool false) rfl rfl rfl (fun za zC zh zk => eqlp_33 rfl (zh.ev rfl) (zh.ev rfl) zk) ?_
  refine WL.nil (WE.sub (K' := [(0, .pointer (some ⟨r, 0, none⟩)), (1, .int .i64 n), (2, .slice a l.length c), (3, .bool goal), (8, .int .i64 0), (12, .bool false)]) ⟨rfl, rfl, rfl, rfl, rfl, rfl, trivial⟩ ?_)
  refine WE.next ?_
  refine WC.condF rfl rfl ?_
  refine WC.skip ?_
  refine WE.next ?_
  refine WC.seq ?_
  refine WC.seq ?_
  refine WC.opt [(true, .val (.int .i64 n)), (true, .val (.bool ((decide ((n : Int) < (0 : Int)))))), (true, .val (.bool ((decide ((n : Int) < (0 : Int)))))), ((true && !(decide ((n : Int) < (0 : Int)))), .val (.pointer (some ⟨r, 0, none⟩))), ((true && !(decide ((n : Int) < (0 : Int)))), .val (.pointer (some ⟨r, 0, none⟩))), ((true && !(decide ((n : Int) < (0 : Int)))), .val (.pointer (some ⟨r, 2, none⟩))), ((true && !(decide ((n : Int) < (0 : Int)))), .val (.map ((some mb)))), ((true && !(decide ((n : Int) < (0 : Int)))), .val (.int .i64 n)), ((true && !(decide ((n : Int) < (0 : Int)))), .val (.int .i64 ((((tmOf ws n) : Nat) : Int)))), ((true && !(decide ((n : Int) < (0 : Int)))), .val (.bool ((decide ((0 : Int) < ((((tmOf ws n) : Nat) : Int) : Int)))))), (true, .val (.bool (((decide ((n : Int) < (0 : Int))) || (decide ((0 : Int) < ((((tmOf ws n) : Nat) : Int) : Int)))))))] [(0, .pointer (some ⟨r, 0, none⟩)), (1, .int .i64 n), (2, .slice a l.length c), (3, .bool goal), (8, .int .i64 0), (12, .bool false)] ⟨rfl, rfl, rfl, rfl, rfl, rfl, trivial⟩ (by kernel_rfl) (by kernel_rfl) (by kernel_rfl) ?_ ?_
  · refine ⟨⟨true, .none rfl, fun h w => optUndef h, fun zβ za zw zc => ?_⟩, ?_⟩
    · exact wp_move rfl (zc.kn.ev rfl) ⟨_, rfl, Below.refl _ _, optDef zβ rfl⟩
    refine ⟨⟨true, .none rfl, fun h w => optUndef h, fun zβ za zw zc => ?_⟩, ?_⟩
    · exact lss_3 rfl ((show za.eval (.tmp 13) = za.tmps.getD 13 undef from rfl).trans (optVal (zc.dep 0 13 (by kernel_rfl)) rfl rfl)) (zc.kn.ev rfl) ⟨_, rfl, Below.refl _ _, optDef zβ rfl⟩
    refine ⟨⟨true, .none rfl, fun h w => optUndef h, fun zβ za zw zc => ?_⟩, ?_⟩
    · exact wp_move rfl ((show za.eval (.tmp 14) = za.tmps.getD 14 undef from rfl).trans (optVal (zc.dep 1 14 (by kernel_rfl)) rfl rfl)) ⟨_, rfl, Below.refl _ _, optDef zβ rfl⟩
    refine ⟨⟨(true && !(decide ((n : Int) < (0 : Int)))), .no (c := (decide ((n : Int) < (0 : Int)))) (d := true) rfl (fun v w h => h), fun h w => optUndef h, fun zβ za zw zc => ?_⟩, ?_⟩
    · exact wp_move rfl (zc.kn.ev rfl) ⟨_, rfl, Below.refl _ _, optDef zβ rfl⟩
    refine ⟨⟨(true && !(decide ((n : Int) < (0 : Int)))), .no (c := (decide ((n : Int) < (0 : Int)))) (d := true) rfl (fun v w h => h), fun h w => optUndef h, fun zβ za zw zc => ?_⟩, ?_⟩
    · exact nilCheck_ rfl ((show za.eval (.tmp 16) = za.tmps.getD 16 undef from rfl).trans (optVal (zc.dep 3 16 (by kernel_rfl)) rfl zβ)) ⟨_, rfl, Below.refl _ _, optDef zβ rfl⟩
    refine ⟨⟨(true && !(decide ((n : Int) < (0 : Int)))), .no (c := (decide ((n : Int) < (0 : Int)))) (d := true) rfl (fun v w h => h), fun h w => optUndef h, fun zβ za zw zc => ?_⟩, ?_⟩
    · exact fld_72_2 rfl ((show za.eval (.tmp 17) = za.tmps.getD 17 undef from rfl).trans (optVal (zc.dep 4 17 (by kernel_rfl)) rfl zβ)) ⟨_, rfl, Below.refl _ _, optDef zβ rfl⟩
    refine ⟨⟨(true && !(decide ((n : Int) < (0 : Int)))), .no (c := (decide ((n : Int) < (0 : Int)))) (d := true) rfl (fun v w h => h), fun h w => optUndef h, fun zβ za zw zc => ?_⟩, ?_⟩
    · exact ld_69 rfl ((show za.eval (.tmp 18) = za.tmps.getD 18 undef from rfl).trans (optVal (zc.dep 5 18 (by kernel_rfl)) rfl zβ)) (bkeeps zc.below _ _ ((hB.cell 2).trans rfl)) ⟨_, rfl, Below.refl _ _, optDef zβ rfl⟩
    refine ⟨⟨(true && !(decide ((n : Int) < (0 : Int)))), .no (c := (decide ((n : Int) < (0 : Int)))) (d := true) rfl (fun v w h => h), fun h w => optUndef h, fun zβ za zw zc => ?_⟩, ?_⟩
    · exact wp_move rfl (zc.kn.ev rfl) ⟨_, rfl, Below.refl _ _, optDef zβ rfl⟩
    refine ⟨⟨(true && !(decide ((n : Int) < (0 : Int)))), .no (c := (decide ((n : Int) < (0 : Int)))) (d := true) rfl (fun v w h => h), fun h w => optUndef h, fun zβ za zw zc => ?_⟩, ?_⟩
    · exact wp_look_im Try.underlying69 Try.underlying3 (zero3 _) (hM.below zc.below) hE rfl ((show za.eval (.tmp 19) = za.tmps.getD 19 undef from rfl).trans (optVal (zc.dep 6 19 (by kernel_rfl)) rfl zβ)) ((show za.eval (.tmp 20) = za.tmps.getD 20 undef from rfl).trans (optVal (zc.dep 7 20 (by kernel_rfl)) rfl zβ)) (by rw [look_wm]; exact ⟨_, rfl, Below.refl _ _, optDef zβ rfl⟩)
    refine ⟨⟨(true && !(decide ((n : Int) < (0 : Int)))), .no (c := (decide ((n : Int) < (0 : Int)))) (d := true) rfl (fun v w h => h), fun h w => optUndef h, fun zβ za zw zc => ?_⟩, ?_⟩
    · exact gtr_3 rfl ((show za.eval (.tmp 21) = za.tmps.getD 21 undef from rfl).trans (optVal (zc.dep 8 21 (by kernel_rfl)) rfl zβ)) (zc.kn.ev rfl) ⟨_, rfl, Below.refl _ _, optDef zβ rfl⟩
    refine ⟨⟨true, .none rfl, fun h w => optUndef h, fun zβ za zw zc => ?_⟩, ?_⟩
    · exact wp_or rfl ((show za.eval (.tmp 15) = za.tmps.getD 15 undef from rfl).trans (optVal (zc.dep 2 15 (by kernel_rfl)) rfl rfl)) (fun hp => ((show za.eval (.tmp 22) = za.tmps.getD 22 undef from rfl).trans (optVal (zc.dep 9 22 (by kernel_rfl)) rfl (bMkN zβ hp)))) ⟨_, rfl, Below.refl _ _, optDef zβ rfl⟩
    exact trivial
  · intro za w1 zh hb2 zu
    have zh := zh.cons (d := 23) (v := .bool (((decide ((n : Int) < (0 : Int))) || (decide ((0 : Int) < ((((tmOf ws n) : Nat) : Int) : Int)))))) (optVal (zu 10 23 (by kernel_rfl)) rfl rfl)
    clear zu
    refine (show WE _ [(0, .pointer (some ⟨r, 0, none⟩)), (1, .int .i64 n), (2, .slice a l.length c), (3, .bool goal), (8, .int .i64 0), (12, .bool false), (23, .bool (((decide ((n : Int) < (0 : Int))) || (decide ((0 : Int) < ((((tmOf ws n) : Nat) : Int) : Int))))))] w1 _ .normal from ?_) za (zh.sub ⟨rfl, rfl, rfl, rfl, rfl, rfl, rfl, trivial⟩)
    refine WE.next ?_
    refine WC.cond rfl (fun h3 => ?_) (fun h3 => ?_)
    · have h3 : ((n : Int) < (0 : Int)) ∨ ((0 : Int) < ((((tmOf ws n) : Nat) : Int) : Int)) := by simpa using h3
      refine WC.seq ?_
      refine WC.region ?_
      refine WL.val (.int .i64 2) rfl rfl rfl (fun za zC zh zk => wp_assign rfl (zh.ev rfl) zk) ?_
      refine WL.nil (WE.sub (K' := [(0, .pointer (some ⟨r, 0, none⟩)), (1, .int .i64 n), (2, .slice a l.length c), (3, .bool goal), (8, .int .i64 2), (12, .bool false), (23, .bool (((decide ((n : Int) < (0 : Int))) || (decide ((0 : Int) < ((((tmOf ws n) : Nat) : Int) : Int))))))]) ⟨rfl, rfl, rfl, rfl, rfl, rfl, rfl, trivial⟩ ?_)
      refine WE.next ?_
      refine WC.ret ?_
      refine WE.thenRet ?_
      refine WE.ret1 rfl rfl ?_
      exact ⟨_, rfl, .inl ⟨by omega, rfl, hb2⟩⟩
    · have h3 : ¬ (((n : Int) < (0 : Int)) ∨ ((0 : Int) < ((((tmOf ws n) : Nat) : Int) : Int))) := by simpa using h3
      have hn0 : 0 ≤ n := by omega
      have ht0 : tmOf ws n = 0 := by omega
      have hno := hok.none ht0
      refine WC.skip ?_
      refine WE.next ?_
      refine WC.seq ?_
      refine WC.region ?_
      refine WL.val (.pointer (some ⟨r, 0, none⟩)) rfl rfl rfl (fun za zC zh zk => wp_move rfl (zh.ev rfl) zk) ?_
      refine WL.val (.pointer (some ⟨r, 0, none⟩)) rfl rfl rfl (fun za zC zh zk => nilCheck_ rfl (zh.ev rfl) zk) ?_
      refine WL.val (.pointer (some ⟨r, 3, none⟩)) rfl rfl rfl (fun za zC zh zk => fld_72_3 rfl (zh.ev rfl) zk) ?_
      have hB4 := hB.below hb2
      refine WL.val (.int .i64 (((times : Nat) : Int))) rfl rfl rfl (fun za zC zh zk => ld_3 rfl (zh.ev rfl) ((hB4.cell 3).trans rfl) zk) ?_
      refine WL.val (.int .i64 ((((times + 1) : Nat) : Int))) rfl rfl rfl (fun za zC zh zk => addb_3 rfl (zh.ev rfl) (zh.ev rfl) (wrap_eq (by omega) (by omega) (by omega)) zk) ?_
      refine WL.val (.pointer (some ⟨r, 0, none⟩)) rfl rfl rfl (fun za zC zh zk => nilCheck_ rfl (zh.ev rfl) zk) ?_
      refine WL.val (.pointer (some ⟨r, 3, none⟩)) rfl rfl rfl (fun za zC zh zk => fld_72_3 rfl (zh.ev rfl) zk) ?_
      have hC5 := Chg.trans hC0 (.ofBelow hb2)
      have hP6 := hP.below hb2
      refine WL.step (post := fun _ w' => Upd r w1 w' ∧ Blk w' r 72 #[.slice ((some ⟨gq, 0, none⟩)) q.length qc, .slice ((some ⟨gh, 0, none⟩)) q.length hcp, .map ((some mb)), .int .i64 ((((times + 1) : Nat) : Int)), .int .i64 (((at_ : Nat) : Int)), .int .i64 (((dn : Nat) : Int))]) rfl rfl rfl (fun za zC zh zk => st_3 rfl (zh.ev rfl) (zh.ev rfl) hB4 (by first | decide | simp) (fun v => zk v _ ⟨Upd.at_ _ _ _ _, hB4.set_ 3 _⟩)) ?_
      rintro v10 w7 ⟨hu8, hB9⟩
      have ho11 := hM.below hb2
      have ho12 := ho11.upd hu8 (by omega)
      have ho13 := hQ.below hb2
      have ho14 := ho13.upd hu8 (by omega)
      have ho15 := hH.below hb2
      have ho16 := ho15.upd hu8 (by omega)
      have hP17 := hP6.upd hu8 (by simp)
      have hC18 := Chg.trans2 hC5 (.ofUpd (S := fun b => b = r) hu8 rfl) (fun i _ q => q ▸ zr1)
      refine WL.nil (WE.sub (K' := [(0, .pointer (some ⟨r, 0, none⟩)), (1, .int .i64 n), (2, .slice a l.length c), (3, .bool goal), (8, .int .i64 0), (12, .bool false), (23, .bool (((decide ((n : Int) < (0 : Int))) || (decide ((0 : Int) < ((((tmOf ws n) : Nat) : Int) : Int))))))]) ⟨rfl, rfl, rfl, rfl, rfl, rfl, rfl, trivial⟩ ?_)
      refine WE.next ?_
      refine WC.seq ?_
      refine WC.seqV (S := ((fun b => b = mb))) [(true, .val (.pointer (some ⟨r, 0, none⟩))), (true, .val (.pointer (some ⟨r, 0, none⟩))), (true, .val (.pointer (some ⟨r, 2, none⟩))), (true, .val (.map ((some mb)))), (true, .val (.int .i64 n)), (true, .val (.pointer (some ⟨r, 0, none⟩))), (true, .val (.pointer (some ⟨r, 0, none⟩))), (true, .val (.pointer (some ⟨r, 3, none⟩))), (true, .val (.int .i64 ((((times + 1) : Nat) : Int)))), (true, .val undef)] [(0, .pointer (some ⟨r, 0, none⟩)), (1, .int .i64 n), (2, .slice a l.length c), (3, .bool goal), (8, .int .i64 0), (12, .bool false), (23, .bool (((decide ((n : Int) < (0 : Int))) || (decide ((0 : Int) < ((((tmOf ws n) : Nat) : Int) : Int))))))] [9] [none] (fun vals w => ∃ es cl, ObjAt w mb (.map es cl) ∧ ImE es cl (List.getD [wmM ws, wmM ws ++ [(n, .int .i64 ((times + 1 : Nat) : Int))]] vals.length [])) ((fun _ _ _ hb h => by obtain ⟨e, c, h1, h2⟩ := h; exact ⟨e, c, h1.below hb, h2⟩)) (by decide) ⟨rfl, rfl, rfl, rfl, rfl, rfl, rfl, trivial⟩ (by kernel_rfl) (by kernel_rfl) (by kernel_rfl) (by kernel_rfl) (⟨_, _, ho12, hE⟩) ?_ ?_
      · refine ⟨.inl ⟨rfl, true, .none rfl, (fun gg b h => by cases h), fun h w => optUndef h, fun zβ za zw zc => ?_⟩, ?_⟩
        · exact wp_move rfl (zc.kn.ev rfl) ⟨_, rfl, Below.refl _ _, optDef zβ rfl⟩
        refine ⟨.inl ⟨rfl, true, .none rfl, (fun gg b h => by cases h), fun h w => optUndef h, fun zβ za zw zc => ?_⟩, ?_⟩
        · exact nilCheck_ rfl ((show za.eval (.tmp 31) = za.tmps.getD 31 undef from rfl).trans (optSVal (zc.dep 0 31 (by kernel_rfl) (by decide)) rfl rfl)) ⟨_, rfl, Below.refl _ _, optDef zβ rfl⟩
        refine ⟨.inl ⟨rfl, true, .none rfl, (fun gg b h => by cases h), fun h w => optUndef h, fun zβ za zw zc => ?_⟩, ?_⟩
        · exact fld_72_2 rfl ((show za.eval (.tmp 32) = za.tmps.getD 32 undef from rfl).trans (optSVal (zc.dep 1 32 (by kernel_rfl) (by decide)) rfl rfl)) ⟨_, rfl, Below.refl _ _, optDef zβ rfl⟩
        refine ⟨.inl ⟨rfl, true, .none rfl, (fun gg b h => by cases h), fun h w => optUndef h, fun zβ za zw zc => ?_⟩, ?_⟩
        · exact ld_69 rfl ((show za.eval (.tmp 33) = za.tmps.getD 33 undef from rfl).trans (optSVal (zc.dep 2 33 (by kernel_rfl) (by decide)) rfl rfl)) (chg_cell zc.chg (by (try dsimp only at *); omega) ((hB9.cell 2).trans rfl)) ⟨_, rfl, Below.refl _ _, optDef zβ rfl⟩
        refine ⟨.inl ⟨rfl, true, .none rfl, (fun gg b h => by cases h), fun h w => optUndef h, fun zβ za zw zc => ?_⟩, ?_⟩
        · exact wp_move rfl (zc.kn.ev rfl) ⟨_, rfl, Below.refl _ _, optDef zβ rfl⟩
        refine ⟨.inl ⟨rfl, true, .none rfl, (fun gg b h => by cases h), fun h w => optUndef h, fun zβ za zw zc => ?_⟩, ?_⟩
        · exact wp_move rfl (zc.kn.ev rfl) ⟨_, rfl, Below.refl _ _, optDef zβ rfl⟩
        refine ⟨.inl ⟨rfl, true, .none rfl, (fun gg b h => by cases h), fun h w => optUndef h, fun zβ za zw zc => ?_⟩, ?_⟩
        · exact nilCheck_ rfl ((show za.eval (.tmp 36) = za.tmps.getD 36 undef from rfl).trans (optSVal (zc.dep 5 36 (by kernel_rfl) (by decide)) rfl rfl)) ⟨_, rfl, Below.refl _ _, optDef zβ rfl⟩
        refine ⟨.inl ⟨rfl, true, .none rfl, (fun gg b h => by cases h), fun h w => optUndef h, fun zβ za zw zc => ?_⟩, ?_⟩
        · exact fld_72_3 rfl ((show za.eval (.tmp 37) = za.tmps.getD 37 undef from rfl).trans (optSVal (zc.dep 6 37 (by kernel_rfl) (by decide)) rfl rfl)) ⟨_, rfl, Below.refl _ _, optDef zβ rfl⟩
        refine ⟨.inl ⟨rfl, true, .none rfl, (fun gg b h => by cases h), fun h w => optUndef h, fun zβ za zw zc => ?_⟩, ?_⟩
        · exact ld_3 rfl ((show za.eval (.tmp 38) = za.tmps.getD 38 undef from rfl).trans (optSVal (zc.dep 7 38 (by kernel_rfl) (by decide)) rfl rfl)) (chg_cell zc.chg (by (try dsimp only at *); omega) ((hB9.cell 3).trans rfl)) ⟨_, rfl, Below.refl _ _, optDef zβ rfl⟩
        refine ⟨.inr ⟨0, rfl, by kernel_rfl, true, .none rfl, (fun gg b h => by cases h), (fun h => (nomatch h)), fun zβ za zw zvals zc => ?_⟩, ?_⟩
        · obtain rfl := vlen0 zc.len
          have zn := zc.now
          obtain ⟨es1, cl1, zM, zE⟩ := zn
          exact wp_put_im Try.underlying69 Try.underlying3 zM zE rfl ((show za.eval (.tmp 34) = za.tmps.getD 34 undef from rfl).trans (optSVal (zc.dep 3 34 (by kernel_rfl) (by decide)) rfl rfl)) ((show za.eval (.tmp 35) = za.tmps.getD 35 undef from rfl).trans (optSVal (zc.dep 4 35 (by kernel_rfl) (by decide)) rfl rfl)) ((show za.eval (.tmp 39) = za.tmps.getD 39 undef from rfl).trans (optSVal (zc.dep 8 39 (by kernel_rfl) (by decide)) rfl rfl)) (no_wm hno) (fun w2 es2 cl2 h1 h2 h3 => ⟨_, rfl, .ofUpd h3 rfl, ⟨es2, cl2, h1, h2⟩, fun b x e _ => by cases e⟩)
        exact trivial
      · intro za w19 zvals zh zl hG20 hc21 zu zw zk
        obtain ⟨z0, rfl⟩ := vlen1 zl
        obtain ⟨es22, cl23, hM24, hE25⟩ := hG20
        have hB28 := chg_blk hB9 hc21 (by (try dsimp only at *); omega)
        have ho29 := ho14.chg hc21 (by (try dsimp only at *); omega)
        have ho30 := ho16.chg hc21 (by (try dsimp only at *); omega)
        have hE25' : ImE es22 cl23 (wmM ((ws ++ [⟨n, times + 1, l, goal⟩]))) := by rw [← put_wm ws ⟨n, times + 1, l, goal⟩]; exact hE25
        have hP26 := hP17.chg hc21 ⟨fun k hk e => (hP17.ap mb (by simp)).2.1 k hk e.symm, fun k b hk hS e => (hP17.ap mb (by simp)).2.2 k hk (e ▸ hS)⟩
        have hC27 := Chg.trans2 hC18 hc21 (fun i _ q => q ▸ zr2)
        clear zu zw zk
        refine (show WE _ [(0, .pointer (some ⟨r, 0, none⟩)), (1, .int .i64 n), (2, .slice a l.length c), (3, .bool goal), (8, .int .i64 0), (12, .bool false), (23, .bool (((decide ((n : Int) < (0 : Int))) || (decide ((0 : Int) < ((((tmOf ws n) : Nat) : Int) : Int))))))] w19 _ .normal from ?_) za (zh.sub ⟨rfl, rfl, rfl, rfl, rfl, rfl, rfl, trivial⟩)
        refine WE.next ?_
        refine WC.seq ?_
        refine WC.seq ?_
        refine WC.region ?_
        refine WL.val (.pointer (some ⟨r, 0, none⟩)) rfl rfl rfl (fun za zC zh zk => wp_move rfl (zh.ev rfl) zk) ?_
        refine WL.val (.pointer (some ⟨r, 0, none⟩)) rfl rfl rfl (fun za zC zh zk => nilCheck_ rfl (zh.ev rfl) zk) ?_
        refine WL.val (.pointer (some ⟨r, 0, none⟩)) rfl rfl rfl (fun za zC zh zk => fld_72_0 rfl (zh.ev rfl) zk) ?_
        refine WL.val (.slice ((some ⟨gq, 0, none⟩)) q.length qc) rfl rfl rfl (fun za zC zh zk => ld_30 rfl (zh.ev rfl) ((hB28.cell 0).trans rfl) zk) ?_
        refine WL.val (.int .i64 (((q.length : Nat) : Int))) rfl rfl rfl (fun za zC zh zk => len_30 rfl (zh.ev rfl) zk) ?_
        refine WL.val (.int .i64 0) rfl rfl rfl (fun za zC zh zk => wp_move rfl (zh.ev rfl) zk) ?_
        refine WL.nil (WE.sub (K' := [(0, .pointer (some ⟨r, 0, none⟩)), (1, .int .i64 n), (2, .slice a l.length c), (3, .bool goal), (8, .int .i64 0), (12, .bool false), (23, .bool (((decide ((n : Int) < (0 : Int))) || (decide ((0 : Int) < ((((tmOf ws n) : Nat) : Int) : Int)))))), (43, .slice ((some ⟨gq, 0, none⟩)) q.length qc), (44, .int .i64 (((q.length : Nat) : Int))), (45, .int .i64 0)]) ⟨rfl, rfl, rfl, rfl, rfl, rfl, rfl, rfl, rfl, rfl, trivial⟩ ?_)
        refine WE.next ?_
        refine WC.block ?_
        refine WC.loop (X := Nat × (Nat → Nat → Prop) × (Nat → List It)) (fun y => q.length - y.1) (fun y => [(0, .pointer (some ⟨r, 0, none⟩)), (1, .int .i64 n), (2, .slice a l.length c), (3, .bool goal), (8, .int .i64 0), (12, .bool false), (23, .bool (((decide ((n : Int) < (0 : Int))) || (decide ((0 : Int) < ((((tmOf ws n) : Nat) : Int) : Int)))))), (43, .slice ((some ⟨gq, 0, none⟩)) q.length qc), (44, .int .i64 (((q.length : Nat) : Int))), (45, .int .i64 (((y.1 : Nat) : Int)))]) (fun y w31 => y.1 ≤ q.length ∧ Hps w31 [r, mb, gq, gh] q.length hb y.2.1 y.2.2 ∧ (∀ k b, k < q.length → y.2.1 k b → Z b ∨ w.heap.size ≤ b) ∧ (∀ k, k < q.length → Rel (qget q k).by_ (if k < y.1 then (ws ++ [⟨n, times + 1, l, goal⟩]) else ws) (y.2.2 k) (if k < y.1 then times + 1 else times)) ∧ Chg Z w w31 ∧ Blk w31 r 72 #[.slice ((some ⟨gq, 0, none⟩)) q.length qc, .slice ((some ⟨gh, 0, none⟩)) q.length hcp, .map ((some mb)), .int .i64 ((((times + 1) : Nat) : Int)), .int .i64 (((at_ : Nat) : Int)), .int .i64 (((dn : Nat) : Int))] ∧ QB (w31) gq q ∧ HB (w31) gh q.length hb ∧ ObjAt (w31) mb (.map es22 cl23)) (⟨0, S, Ls⟩) ⟨rfl, rfl, rfl, rfl, rfl, rfl, rfl, rfl, rfl, rfl, trivial⟩ ?_ ?_
        · exact ⟨Nat.zero_le _, hP26, fun k b hk hS => .inl (zr6 k b hk hS), fun k hk => by rw [if_neg (by (try dsimp only); omega), if_neg (by (try dsimp only); omega)]; exact hR k hk, hC27, hB28, ho29, ho30, hM24⟩
        · rintro y w31 ⟨hk, hP, hzs, hRl, hC, hB32, ho33, ho34, ho35⟩
          refine WC.seq ?_
          refine WC.region ?_
          refine WL.val (.bool ((decide ((((y.1 : Nat) : Int) : Int) < (((q.length : Nat) : Int) : Int))))) rfl rfl rfl (fun za zC zh zk => lss_3 rfl (zh.ev rfl) (zh.ev rfl) zk) ?_
          refine WL.nil (WE.sub (K' := [(0, .pointer (some ⟨r, 0, none⟩)), (1, .int .i64 n), (2, .slice a l.length c), (3, .bool goal), (8, .int .i64 0), (12, .bool false), (23, .bool (((decide ((n : Int) < (0 : Int))) || (decide ((0 : Int) < ((((tmOf ws n) : Nat) : Int) : Int)))))), (43, .slice ((some ⟨gq, 0, none⟩)) q.length qc), (44, .int .i64 (((q.length : Nat) : Int))), (45, .int .i64 (((y.1 : Nat) : Int))), (46, .bool ((decide ((((y.1 : Nat) : Int) : Int) < (((q.length : Nat) : Int) : Int)))))]) ⟨rfl, rfl, rfl, rfl, rfl, rfl, rfl, rfl, rfl, rfl, rfl, trivial⟩ ?_)
          refine WE.next ?_
          refine WC.seq ?_
          refine WC.cond rfl (fun h36 => ?_) (fun h36 => ?_)
          · have h36 : (((y.1 : Nat) : Int) : Int) < (((q.length : Nat) : Int) : Int) := by simpa using h36
            refine WC.skip ?_
            refine WE.next ?_
            refine WC.seq ?_
            refine WC.block ?_
            refine WC.seq ?_
            refine WC.region ?_
            refine WL.val (.int .i64 (((y.1 : Nat) : Int))) rfl rfl rfl (fun za zC zh zk => wp_move rfl (zh.ev rfl) zk) ?_
            refine WL.val (.pointer (some ⟨gq, 0 + y.1 * 2, none⟩)) rfl rfl rfl (fun za zC zh zk => ix_30 (k := y.1) rfl (zh.ev rfl) rfl (zh.ev rfl) (by first | omega | (simp; omega)) zk) ?_
            refine WL.val (.agg #[.int .i64 ((qget q y.1).by_), .int .i64 ((qget q y.1).take)]) rfl rfl rfl (fun za zC zh zk => ld_38 rfl (zh.ev rfl) ((ho33.row y.1 (by first | omega | (simp; omega))).1) ((ho33.row y.1 (by first | omega | (simp; omega))).2) zk) ?_
            refine WL.step (post := NewBlk w31 38 #[.int .i64 0, .int .i64 0]) rfl rfl rfl (fun za zC zh zk => alloc_38 rfl (zk _ _ (newBlk _ _ _))) ?_
            rintro _ w37 ⟨g38, rfl, hg39, hB40, hb41, hz42⟩
            have hl43 : r < g38 := by have z1 := hB32.lt; omega
            have hl44 : gq < g38 := by have z1 := ho33.lt; omega
            have hl45 : gh < g38 := by have z1 := ho34.lt; omega
            have hl46 : mb < g38 := by have z1 := ho35.lt; omega
            have hl47 : w31.heap.size ≤ g38 := by omega
            refine WL.val (.int .i64 (((y.1 : Nat) : Int))) rfl rfl rfl (fun za zC zh zk => wp_assign rfl (zh.ev rfl) zk) ?_
            refine WL.step (post := fun _ w' => Upd g38 w37 w' ∧ Blk w' g38 38 #[.int .i64 ((qget q y.1).by_), .int .i64 ((qget q y.1).take)]) rfl rfl rfl (fun za zC zh zk => st_38 rfl (zh.ev rfl) (zh.ev rfl) rfl rfl hB40 (by first | decide | simp) (fun v => zk v _ ⟨(Upd.at_ _ _ _ _).trans (Upd.at_ _ _ _ _), (hB40.set_ 0 _).set_ 1 _⟩)) ?_
            rintro v51 w48 ⟨hu49, hB50⟩
            have hb52 := upd_below hb41 hu49 (by omega)
            have hB53 := hB32.below hb41
            have hB54 := upd_blk hB53 hu49 (by omega)
            have ho55 := ho33.below hb41
            have ho56 := ho55.upd hu49 (by omega)
            have ho57 := ho34.below hb41
            have ho58 := ho57.upd hu49 (by omega)
            have ho59 := ho35.below hb41
            have ho60 := ho59.upd hu49 (by omega)
            refine WL.nil (WE.sub (K' := [(0, .pointer (some ⟨r, 0, none⟩)), (1, .int .i64 n), (2, .slice a l.length c), (3, .bool goal), (8, .int .i64 0), (9, .int .i64 (((y.1 : Nat) : Int))), (10, .pointer (some ⟨g38, 0, none⟩)), (12, .bool false), (23, .bool (((decide ((n : Int) < (0 : Int))) || (decide ((0 : Int) < ((((tmOf ws n) : Nat) : Int) : Int)))))), (43, .slice ((some ⟨gq, 0, none⟩)) q.length qc), (44, .int .i64 (((q.length : Nat) : Int))), (45, .int .i64 (((y.1 : Nat) : Int))), (46, .bool ((decide ((((y.1 : Nat) : Int) : Int) < (((q.length : Nat) : Int) : Int)))))]) ⟨rfl, rfl, rfl, rfl, rfl, rfl, rfl, rfl, rfl, rfl, rfl, rfl, rfl, trivial⟩ ?_)
            refine WE.next ?_
            have hky : y.1 < q.length := by omega
            have hP61 := hP.below hb52
            have hC62 := Chg.trans hC (.ofBelow hb52)
            have hCw := hC62
            have hbl : ∀ b, (b = hb y.1 ∨ y.2.1 y.1 b) → b < w31.heap.size := fun b z => Or.elim z (fun e => e ▸ (hP.at_ y.1 hky).lt) (fun e => hP.lt y.1 b hky e)
            have hnr : ¬ (r = hb y.1 ∨ y.2.1 y.1 r) := hP.no hky (by simp)
            have hnh : ¬ (gh = hb y.1 ∨ y.2.1 y.1 gh) := hP.no hky (by simp)
            have hnq : ¬ (gq = hb y.1 ∨ y.2.1 y.1 gq) := hP.no hky (by simp)
            have hnm : ¬ (mb = hb y.1 ∨ y.2.1 y.1 mb) := hP.no hky (by simp)
            have hnb : ¬ (g38 = hb y.1 ∨ y.2.1 y.1 g38) := fun z => by have := hbl _ z; omega
            refine WC.seqV (S := ((fun b => b = hb y.1 ∨ y.2.1 y.1 b))) [(true, .val (.pointer (some ⟨r, 0, none⟩))), (true, .val (.pointer (some ⟨r, 0, none⟩))), (true, .val (.pointer (some ⟨r, 1, none⟩))), (true, .val (.slice ((some ⟨gh, 0, none⟩)) q.length hcp)), (true, .val (.int .i64 (((y.1 : Nat) : Int)))), (true, .val (.pointer (some ⟨gh, 0 + y.1, none⟩))), (true, .val (.pointer (some ⟨(hb y.1), 0, none⟩))), (true, .val (.pointer (some ⟨g38, 0, none⟩))), (true, .val (.int .i64 ((qget q y.1).by_))), (true, .val (.slice a l.length c)), (true, .val (.bool goal)), (true, .val (.agg #[.int .i64 ((weighP (qget q y.1).by_ l goal).1), .int .i64 ((weighP (qget q y.1).by_ l goal).2)])), (true, .val (.int .i64 n)), (true, .val (.pointer (some ⟨r, 0, none⟩))), (true, .val (.pointer (some ⟨r, 0, none⟩))), (true, .val (.pointer (some ⟨r, 3, none⟩))), (true, .val (.int .i64 ((((times + 1) : Nat) : Int)))), (true, .val (.agg #[.int .i64 ((weighP (qget q y.1).by_ l goal).1), .int .i64 ((weighP (qget q y.1).by_ l goal).2), .int .i64 n, .int .i64 ((((times + 1) : Nat) : Int))])), (true, .val undef)] [(0, .pointer (some ⟨r, 0, none⟩)), (1, .int .i64 n), (2, .slice a l.length c), (3, .bool goal), (8, .int .i64 0), (9, .int .i64 (((y.1 : Nat) : Int))), (10, .pointer (some ⟨g38, 0, none⟩)), (12, .bool false), (23, .bool (((decide ((n : Int) < (0 : Int))) || (decide ((0 : Int) < ((((tmOf ws n) : Nat) : Int) : Int)))))), (43, .slice ((some ⟨gq, 0, none⟩)) q.length qc), (44, .int .i64 (((q.length : Nat) : Int))), (45, .int .i64 (((y.1 : Nat) : Int))), (46, .bool ((decide ((((y.1 : Nat) : Int) : Int) < (((q.length : Nat) : Int) : Int)))))] [18] [none] (PushG w48.heap.size (hb y.1) (y.2.1 y.1) (y.2.2 y.1) (itemOf (qget q y.1).by_ ⟨n, times + 1, l, goal⟩)) PushG.below (by decide) ⟨rfl, rfl, rfl, rfl, rfl, rfl, rfl, rfl, rfl, rfl, rfl, rfl, rfl, trivial⟩ (by kernel_rfl) (by kernel_rfl) (by kernel_rfl) (by kernel_rfl) (hP61.at_ y.1 hky) ?_ ?_
            · refine ⟨.inl ⟨rfl, true, .none rfl, (fun gg b h => by cases h), fun h w => optUndef h, fun zβ za zw zc => ?_⟩, ?_⟩
              · exact wp_move rfl (zc.kn.ev rfl) ⟨_, rfl, Below.refl _ _, optDef zβ rfl⟩
              refine ⟨.inl ⟨rfl, true, .none rfl, (fun gg b h => by cases h), fun h w => optUndef h, fun zβ za zw zc => ?_⟩, ?_⟩
              · exact nilCheck_ rfl ((show za.eval (.tmp 50) = za.tmps.getD 50 undef from rfl).trans (optSVal (zc.dep 0 50 (by kernel_rfl) (by decide)) rfl rfl)) ⟨_, rfl, Below.refl _ _, optDef zβ rfl⟩
              refine ⟨.inl ⟨rfl, true, .none rfl, (fun gg b h => by cases h), fun h w => optUndef h, fun zβ za zw zc => ?_⟩, ?_⟩
              · exact fld_72_1 rfl ((show za.eval (.tmp 51) = za.tmps.getD 51 undef from rfl).trans (optSVal (zc.dep 1 51 (by kernel_rfl) (by decide)) rfl rfl)) ⟨_, rfl, Below.refl _ _, optDef zβ rfl⟩
              refine ⟨.inl ⟨rfl, true, .none rfl, (fun gg b h => by cases h), fun h w => optUndef h, fun zβ za zw zc => ?_⟩, ?_⟩
              · exact ld_70 rfl ((show za.eval (.tmp 52) = za.tmps.getD 52 undef from rfl).trans (optSVal (zc.dep 2 52 (by kernel_rfl) (by decide)) rfl rfl)) (chg_cell zc.chg (by (first | exact hnr | exact hnh | exact hnb | exact hnq | exact hnm)) ((hB54.cell 1).trans rfl)) ⟨_, rfl, Below.refl _ _, optDef zβ rfl⟩
              refine ⟨.inl ⟨rfl, true, .none rfl, (fun gg b h => by cases h), fun h w => optUndef h, fun zβ za zw zc => ?_⟩, ?_⟩
              · exact wp_move rfl (zc.kn.ev rfl) ⟨_, rfl, Below.refl _ _, optDef zβ rfl⟩
              refine ⟨.inl ⟨rfl, true, .none rfl, (fun gg b h => by cases h), fun h w => optUndef h, fun zβ za zw zc => ?_⟩, ?_⟩
              · exact ix_70 (k := y.1) rfl ((show za.eval (.tmp 53) = za.tmps.getD 53 undef from rfl).trans (optSVal (zc.dep 3 53 (by kernel_rfl) (by decide)) rfl rfl)) rfl ((show za.eval (.tmp 54) = za.tmps.getD 54 undef from rfl).trans (optSVal (zc.dep 4 54 (by kernel_rfl) (by decide)) rfl rfl)) (by first | omega | (simp; omega)) ⟨_, rfl, Below.refl _ _, optDef zβ rfl⟩
              refine ⟨.inl ⟨rfl, true, .none rfl, (fun gg b h => by cases h), fun h w => optUndef h, fun zβ za zw zc => ?_⟩, ?_⟩
              · exact ld_73 rfl ((show za.eval (.tmp 55) = za.tmps.getD 55 undef from rfl).trans (optSVal (zc.dep 5 55 (by kernel_rfl) (by decide)) rfl rfl)) (chg_cell zc.chg (by (first | exact hnr | exact hnh | exact hnb | exact hnq | exact hnm)) (ho58.row y.1 (by first | omega | (simp; omega)))) ⟨_, rfl, Below.refl _ _, optDef zβ rfl⟩
              refine ⟨.inl ⟨rfl, true, .none rfl, (fun gg b h => by cases h), fun h w => optUndef h, fun zβ za zw zc => ?_⟩, ?_⟩
              · exact fld_38_0 rfl (zc.kn.ev rfl) ⟨_, rfl, Below.refl _ _, optDef zβ rfl⟩
              refine ⟨.inl ⟨rfl, true, .none rfl, (fun gg b h => by cases h), fun h w => optUndef h, fun zβ za zw zc => ?_⟩, ?_⟩
              · exact ld_22 rfl ((show za.eval (.tmp 57) = za.tmps.getD 57 undef from rfl).trans (optSVal (zc.dep 7 57 (by kernel_rfl) (by decide)) rfl rfl)) (chg_cell zc.chg (by (first | exact hnr | exact hnh | exact hnb | exact hnq | exact hnm)) ((hB50.cell 0).trans rfl)) ⟨_, rfl, Below.refl _ _, optDef zβ rfl⟩
              refine ⟨.inl ⟨rfl, true, .none rfl, (fun gg b h => by cases h), fun h w => optUndef h, fun zβ za zw zc => ?_⟩, ?_⟩
              · exact wp_move rfl (zc.kn.ev rfl) ⟨_, rfl, Below.refl _ _, optDef zβ rfl⟩
              refine ⟨.inl ⟨rfl, true, .none rfl, (fun gg b h => by cases h), fun h w => optUndef h, fun zβ za zw zc => ?_⟩, ?_⟩
              · exact wp_move rfl (zc.kn.ev rfl) ⟨_, rfl, Below.refl _ _, optDef zβ rfl⟩
              refine ⟨.inl ⟨rfl, true, .none rfl, (fun gg b h => by cases h), fun h w => optUndef h, fun zβ za zw zc => ?_⟩, ?_⟩
              · exact wp_call (by kernel_rfl) rfl (hv3 ((show za.eval (.tmp 58) = za.tmps.getD 58 undef from rfl).trans (optSVal (zc.dep 8 58 (by kernel_rfl) (by decide)) rfl rfl)) ((show za.eval (.tmp 59) = za.tmps.getD 59 undef from rfl).trans (optSVal (zc.dep 9 59 (by kernel_rfl) (by decide)) rfl rfl)) ((show za.eval (.tmp 60) = za.tmps.getD 60 undef from rfl).trans (optSVal (zc.dep 10 60 (by kernel_rfl) (by decide)) rfl rfl))) ((weigh_any (qget q y.1).by_ l _ a c (hl _ (Chg.trans2 (hCw.mono (fun _ z => .inl z)) zc.chg (fun i hi z => Or.elim z (fun e => .inl (e ▸ zr5 _ hky)) (fun e => hzs _ _ hky e)))) hlz goal)) (fun v w' h => ⟨v, rfl, h.2, optDef zβ h.1⟩)
              refine ⟨.inl ⟨rfl, true, .none rfl, (fun gg b h => by cases h), fun h w => optUndef h, fun zβ za zw zc => ?_⟩, ?_⟩
              · exact wp_move rfl (zc.kn.ev rfl) ⟨_, rfl, Below.refl _ _, optDef zβ rfl⟩
              refine ⟨.inl ⟨rfl, true, .none rfl, (fun gg b h => by cases h), fun h w => optUndef h, fun zβ za zw zc => ?_⟩, ?_⟩
              · exact wp_move rfl (zc.kn.ev rfl) ⟨_, rfl, Below.refl _ _, optDef zβ rfl⟩
              refine ⟨.inl ⟨rfl, true, .none rfl, (fun gg b h => by cases h), fun h w => optUndef h, fun zβ za zw zc => ?_⟩, ?_⟩
              · exact nilCheck_ rfl ((show za.eval (.tmp 63) = za.tmps.getD 63 undef from rfl).trans (optSVal (zc.dep 13 63 (by kernel_rfl) (by decide)) rfl rfl)) ⟨_, rfl, Below.refl _ _, optDef zβ rfl⟩
              refine ⟨.inl ⟨rfl, true, .none rfl, (fun gg b h => by cases h), fun h w => optUndef h, fun zβ za zw zc => ?_⟩, ?_⟩
              · exact fld_72_3 rfl ((show za.eval (.tmp 64) = za.tmps.getD 64 undef from rfl).trans (optSVal (zc.dep 14 64 (by kernel_rfl) (by decide)) rfl rfl)) ⟨_, rfl, Below.refl _ _, optDef zβ rfl⟩
              refine ⟨.inl ⟨rfl, true, .none rfl, (fun gg b h => by cases h), fun h w => optUndef h, fun zβ za zw zc => ?_⟩, ?_⟩
              · exact ld_3 rfl ((show za.eval (.tmp 65) = za.tmps.getD 65 undef from rfl).trans (optSVal (zc.dep 15 65 (by kernel_rfl) (by decide)) rfl rfl)) (chg_cell zc.chg (by (first | exact hnr | exact hnh | exact hnb | exact hnq | exact hnm)) ((hB54.cell 3).trans rfl)) ⟨_, rfl, Below.refl _ _, optDef zβ rfl⟩
              refine ⟨.inl ⟨rfl, true, .none rfl, (fun gg b h => by cases h), fun h w => optUndef h, fun zβ za zw zc => ?_⟩, ?_⟩
              · exact build_75_0_1_2 rfl ((show za.eval (.tmp 61) = za.tmps.getD 61 undef from rfl).trans (optSVal (zc.dep 11 61 (by kernel_rfl) (by decide)) rfl rfl)) ((show za.eval (.tmp 62) = za.tmps.getD 62 undef from rfl).trans (optSVal (zc.dep 12 62 (by kernel_rfl) (by decide)) rfl rfl)) ((show za.eval (.tmp 66) = za.tmps.getD 66 undef from rfl).trans (optSVal (zc.dep 16 66 (by kernel_rfl) (by decide)) rfl rfl)) ⟨_, rfl, Below.refl _ _, optDef zβ rfl⟩
              refine ⟨.inr ⟨0, rfl, by kernel_rfl, true, .none rfl, (fun gg b h => by cases h), (fun h => (nomatch h)), fun zβ za zw zvals zc => ?_⟩, ?_⟩
              · obtain rfl := vlen0 zc.len
                have zn := zc.now
                have zH : HeapAt zw (hb y.1) (y.2.1 y.1) (y.2.2 y.1) := zn
                have hln := (hRl y.1 hky).len
                rw [if_neg (by omega)] at hln
                exact wp_call (by kernel_rfl) rfl (hv2 ((show za.eval (.tmp 56) = za.tmps.getD 56 undef from rfl).trans (optSVal (zc.dep 6 56 (by kernel_rfl) (by decide)) rfl rfl)) ((show za.eval (.tmp 67) = za.tmps.getD 67 undef from rfl).trans (optSVal (zc.dep 17 67 (by kernel_rfl) (by decide)) rfl rfl))) (push_any (itemOf (qget q y.1).by_ ⟨n, times + 1, l, goal⟩) (y.2.2 y.1) zw (hb y.1) (y.2.1 y.1) zH (hP.heap y.1 hky) (hP.sep y.1 y.1 hky hky) (by omega)) (fun v w2 h => ⟨v, rfl, h.2.choose_spec.2.2.2, ⟨h.2.choose, h.2.choose_spec.1, h.2.choose_spec.2.1, h.2.choose_spec.2.2.1.mono (fun b z _ => z.imp id (fun z => Nat.le_trans zc.chg.size z))⟩, fun b x e _ => by cases e⟩)
              exact trivial
            · intro za w64 zvals zh zl hG65 hc66 zu zw zk
              obtain ⟨z0, rfl⟩ := vlen1 zl
              obtain ⟨L67, hL68, hL69, hL70⟩ := hG65
              have hB75 := chg_blk hB54 hc66 (by (first | exact hnr | exact hnh | exact hnb | exact hnq | exact hnm))
              have hB76 := chg_blk hB50 hc66 (by (first | exact hnr | exact hnh | exact hnb | exact hnq | exact hnm))
              have ho77 := ho56.chg hc66 (by (first | exact hnr | exact hnh | exact hnb | exact hnq | exact hnm))
              have ho78 := ho58.chg hc66 (by (first | exact hnr | exact hnh | exact hnb | exact hnq | exact hnm))
              have ho79 := ho60.chg hc66 (by (first | exact hnr | exact hnh | exact hnb | exact hnq | exact hnm))
              have hP71 := Hps.step hP61 hky hL69 hL70 hc66
              have hC72 : Chg Z w w64 := Chg.trans2 hCw hc66 (fun i hi z => Or.elim z (fun e => e ▸ zr5 _ hky) (fun e => Or.elim (hzs _ _ hky e) id (fun u => by omega)))
              have hz74 : ∀ k b, k < q.length → (fun i b => if i = y.1 then y.2.1 y.1 b ∨ (w48.heap.size ≤ b ∧ b < w64.heap.size) else y.2.1 i b) k b → Z b ∨ w.heap.size ≤ b := fun k b hk2 z => by
                dsimp only at z
                split at z
                · rcases z with z | z
                  · exact hzs _ _ hky z
                  · have u := hCw.size; exact .inr (by omega)
                · exact hzs _ _ hk2 z
              have hR73 : ∀ k, k < q.length → Rel (qget q k).by_ (if k < y.1 + 1 then (ws ++ [⟨n, times + 1, l, goal⟩]) else ws) ((fun i => if i = y.1 then L67 else y.2.2 i) k) (if k < y.1 + 1 then times + 1 else times) := fun k hk2 => by
                dsimp only
                have z := hRl k hk2
                by_cases e : k = y.1
                · subst e
                  rw [if_neg (by omega), if_neg (by omega)] at z
                  rw [if_pos (show y.1 < y.1 + 1 by omega), if_pos (show y.1 < y.1 + 1 by omega), if_pos rfl]
                  exact z.add hok rfl hL68
                · rw [if_neg e]
                  by_cases e2 : k < y.1
                  · rw [if_pos e2, if_pos e2] at z
                    rw [if_pos (by omega), if_pos (by omega)]; exact z
                  · rw [if_neg e2, if_neg e2] at z
                    rw [if_neg (by omega), if_neg (by omega)]; exact z
              clear zu zw zk
              refine (show WE _ [(0, .pointer (some ⟨r, 0, none⟩)), (1, .int .i64 n), (2, .slice a l.length c), (3, .bool goal), (8, .int .i64 0), (9, .int .i64 (((y.1 : Nat) : Int))), (10, .pointer (some ⟨g38, 0, none⟩)), (12, .bool false), (23, .bool (((decide ((n : Int) < (0 : Int))) || (decide ((0 : Int) < ((((tmOf ws n) : Nat) : Int) : Int)))))), (43, .slice ((some ⟨gq, 0, none⟩)) q.length qc), (44, .int .i64 (((q.length : Nat) : Int))), (45, .int .i64 (((y.1 : Nat) : Int))), (46, .bool ((decide ((((y.1 : Nat) : Int) : Int) < (((q.length : Nat) : Int) : Int)))))] w64 _ .normal from ?_) za (zh.sub ⟨rfl, rfl, rfl, rfl, rfl, rfl, rfl, rfl, rfl, rfl, rfl, rfl, rfl, trivial⟩)
              refine WE.blockNormal ?_
              refine WE.next ?_
              refine WC.region ?_
              refine WL.val (.int .i64 ((((y.1 + 1) : Nat) : Int))) rfl rfl rfl (fun za zC zh zk => addb_3 rfl (zh.ev rfl) (zh.ev rfl) (wrap_eq (by omega) (by omega) (by omega)) zk) ?_
              refine WL.val (.int .i64 ((((y.1 + 1) : Nat) : Int))) rfl rfl rfl (fun za zC zh zk => wp_move rfl (zh.ev rfl) zk) ?_
              refine WL.nil (WE.sub (K' := [(0, .pointer (some ⟨r, 0, none⟩)), (1, .int .i64 n), (2, .slice a l.length c), (3, .bool goal), (8, .int .i64 0), (9, .int .i64 (((y.1 : Nat) : Int))), (10, .pointer (some ⟨g38, 0, none⟩)), (12, .bool false), (23, .bool (((decide ((n : Int) < (0 : Int))) || (decide ((0 : Int) < ((((tmOf ws n) : Nat) : Int) : Int)))))), (43, .slice ((some ⟨gq, 0, none⟩)) q.length qc), (44, .int .i64 (((q.length : Nat) : Int))), (45, .int .i64 ((((y.1 + 1) : Nat) : Int))), (46, .bool ((decide ((((y.1 : Nat) : Int) : Int) < (((q.length : Nat) : Int) : Int)))))]) ⟨rfl, rfl, rfl, rfl, rfl, rfl, rfl, rfl, rfl, rfl, rfl, rfl, rfl, trivial⟩ ?_)
              refine WE.round (⟨y.1 + 1, (fun i b => if i = y.1 then y.2.1 y.1 b ∨ (w48.heap.size ≤ b ∧ b < w64.heap.size) else y.2.1 i b), (fun i => if i = y.1 then L67 else y.2.2 i)⟩) ⟨rfl, rfl, rfl, rfl, rfl, rfl, rfl, rfl, rfl, rfl, trivial⟩ ?_ ?_
              · exact ⟨by (try dsimp only); omega, hP71, hz74, hR73, hC72, hB75, ho77, ho78, ho79⟩
              · (try dsimp only); omega
          · have h36 : ¬ ((((y.1 : Nat) : Int) : Int) < (((q.length : Nat) : Int) : Int)) := by simpa using h36
            refine WC.exit ?_
            refine WE.thenExit ?_
            refine WE.thenExit ?_
            refine WE.blockIs rfl ?_
            refine WE.next ?_
            refine WC.seq ?_
            refine WC.region ?_
            refine WL.val (.int .i64 0) rfl rfl rfl (fun za zC zh zk => wp_assign rfl (zh.ev rfl) zk) ?_
            refine WL.nil (WE.sub (K' := [(0, .pointer (some ⟨r, 0, none⟩)), (1, .int .i64 n), (2, .slice a l.length c), (3, .bool goal), (8, .int .i64 0), (12, .bool false), (23, .bool (((decide ((n : Int) < (0 : Int))) || (decide ((0 : Int) < ((((tmOf ws n) : Nat) : Int) : Int)))))), (43, .slice ((some ⟨gq, 0, none⟩)) q.length qc), (44, .int .i64 (((q.length : Nat) : Int))), (45, .int .i64 (((y.1 : Nat) : Int))), (46, .bool ((decide ((((y.1 : Nat) : Int) : Int) < (((q.length : Nat) : Int) : Int)))))]) ⟨rfl, rfl, rfl, rfl, rfl, rfl, rfl, rfl, rfl, rfl, rfl, trivial⟩ ?_)
            refine WE.next ?_
            refine WC.ret ?_
            refine WE.ret1 rfl rfl ?_
            exact ⟨_, rfl, .inr ⟨hn0, ht0, rfl, ⟨⟨mb, gq, gh, qc, hcp, hb, _, _, es22, cl23, hB32, ho33, ho34, ho35, hE25', hP, ⟨.inl zr1, .inl zr2, .inl zr3, .inl zr4, fun k hk => .inl (zr5 k hk), hzs⟩, fun k hk2 => by have z := hRl k hk2; rw [if_pos (by omega), if_pos (by omega)] at z; exact z⟩, hok.add hn0 ht0 l goal, hR0.qs, hat, hdn⟩, hC⟩⟩

end Go.Proofs.Ytjhkoiggeepajaa
