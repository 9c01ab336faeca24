/- What two substitutions do together: the program. -/
import Derived.Test.YtgechlgdnnpoeaaCompPlain
import Derived.Test.YtgechlgdnnpoeaaBdSort
import Derived.Test.YtgechlgdnnpoeaaSubDel
import Derived.Test.YtgechlgdnnpoeaaRng
import Derived.Test.YtgechlgdnnpoeaaKOps2
namespace Go.Proofs.Ytgechlgdnnpoeaa
open Go.RowKit Go

/-- A substitution that was made since. -/
def NewSub (w0 w : World) (R : List Bd) (a : Option Addr) (c : Nat) : Prop := InRow eltB (fun b => w0.heap.size ≤ b) w R a ∧ R.length ≤ c ∧ c ≤ maxLen
def CompIs (w w' : World) (a b : List Bd) (v : Value) : Prop := if subOk (-1) a = true ∧ subOk (-1) b = true then ∃ (R : List Bd) (p : Option Addr) (c : Nat), v = .tuple #[.slice p R.length c, .int .i64 0] ∧ CompOf a b R ∧ NewSub w w' R p c else v = .tuple #[.slice none 0 0, .int .i64 2]
theorem subCheck_ok {l : List Bd} (h : ¬ subCheck l ≠ 0) : subOk (-1) l = true := by
  unfold subCheck at h; split at h
  · assumption
  · omega
theorem subCheck_no {l : List Bd} (h : subCheck l ≠ 0) : ¬ subOk (-1) l = true := by
  unfold subCheck at h; split at h
  · omega
  · assumption
set_option maxRecDepth 100000 in
theorem compose_any (sA sB : List Bd) (w : World) (pa pb : Option Addr) (ca cb : Nat) (hA : IsSub w sA pa ca) (hB : IsSub w sB pb cb) (hla : sA.length ≤ 1048576) (hlb : sB.length ≤ 1048576) : Calls Try.prog 11 #[.slice pa sA.length ca, .slice pb sB.length cb] w (Ret fun v' w' => CompIs w w' sA sB v' ∧ Below w.heap.size w w') := by
  have hcA := hA.cap
  have hcB := hB.cap
  refine Calls.walk (l := [.slice pa sA.length ca, .slice pb sB.length cb]) Try.func11 rfl (by kernel_rfl) ?_
  refine WC.sub (K' := [(0, .slice pa sA.length ca), (1, .slice pb sB.length cb)]) ⟨rfl, rfl, trivial⟩ ?_
  refine WC.seq ?_
  refine WC.region ?_
  refine WL.val (.slice none 0 0) rfl rfl rfl (fun za zC zh zk => wp_assign rfl (zh.ev rfl) zk) ?_
  refine WL.val (.int .i64 0) rfl rfl rfl (fun za zC zh zk => wp_assign rfl (zh.ev rfl) zk) ?_
  refine WL.nil (WE.sub (K' := [(0, .slice pa sA.length ca), (1, .slice pb sB.length cb), (4, .slice none 0 0), (5, .int .i64 0)]) ⟨rfl, rfl, rfl, rfl, trivial⟩ ?_)
  refine WE.next ?_
  refine WC.seq ?_
  refine WC.seq ?_
  refine WC.region ?_
  refine WL.val (.slice pa sA.length ca) rfl rfl rfl (fun za zC zh zk => wp_move rfl (zh.ev rfl) zk) ?_
  refine WL.call rfl rfl rfl (fun za zh zC => wp_call (by kernel_rfl) rfl (hv1 (zh.ev rfl))) (check_any sA _ _ _ hA.len hA.cap (hA.below (Below.refl _ _)).rows) ?_
  rintro _ w2 ⟨rfl, hq1⟩
  refine WL.val (.bool ((((subCheck sA) : Int) != (0 : Int)))) rfl rfl rfl (fun za zC zh zk => neq_26 rfl (zh.ev rfl) (zh.ev rfl) zk) ?_
  refine WL.val (.bool ((((subCheck sA) : Int) != (0 : Int)))) rfl rfl rfl (fun za zC zh zk => wp_move rfl (zh.ev rfl) zk) ?_
  refine bool_split ((((subCheck sA) : Int) != (0 : Int))) (fun h3 => ?_) (fun h3 => ?_)
  · refine WL.sub (K' := [(0, .slice pa sA.length ca), (1, .slice pb sB.length cb), (4, .slice none 0 0), (5, .int .i64 0), (11, .slice pa sA.length ca), (12, .int .i64 ((subCheck sA))), (13, .bool ((((subCheck sA) : Int) != (0 : Int)))), (14, .bool true)]) ⟨rfl, rfl, rfl, rfl, rfl, rfl, rfl, (by exact congrArg (fun z => some (Value.bool z)) h3), trivial⟩ ?_
    have h3 : ((subCheck sA) : Int) ≠ (0 : Int) := by simpa using h3
    refine WL.skip (d := 14) rfl rfl rfl rfl rfl ?_
    refine WL.skip (d := 14) rfl rfl rfl rfl rfl ?_
    refine WL.skip (d := 14) rfl rfl rfl rfl rfl ?_
    refine WL.val (.bool true) rfl rfl rfl (fun za zC zh zk => wp_pickT rfl (zh.ev rfl) (zh.ev rfl) zk) ?_
    refine WL.nil (WE.sub (K' := [(0, .slice pa sA.length ca), (1, .slice pb sB.length cb), (4, .slice none 0 0), (5, .int .i64 0), (18, .bool true)]) ⟨rfl, rfl, rfl, rfl, rfl, trivial⟩ ?_)
    refine WE.next ?_
    refine WC.condT rfl rfl ?_
    refine WC.seq ?_
    refine WC.region ?_
    refine WL.val (.slice none 0 0) rfl rfl rfl (fun za zC zh zk => wp_assign rfl (zh.ev rfl) zk) ?_
    refine WL.val (.int .i64 2) rfl rfl rfl (fun za zC zh zk => wp_assign rfl (zh.ev rfl) zk) ?_
    refine WL.nil (WE.sub (K' := [(0, .slice pa sA.length ca), (1, .slice pb sB.length cb), (4, .slice none 0 0), (5, .int .i64 2), (18, .bool true)]) ⟨rfl, rfl, rfl, rfl, rfl, trivial⟩ ?_)
    refine WE.next ?_
    refine WC.ret ?_
    refine WE.thenRet ?_
    refine WE.ret2 rfl rfl rfl ?_
    refine ⟨_, rfl, ?_, hq1⟩
    unfold CompIs
    rw [if_neg (fun h => by first | exact subCheck_no (by assumption) h.1 | exact subCheck_no (by assumption) h.2)]
  · refine WL.sub (K' := [(0, .slice pa sA.length ca), (1, .slice pb sB.length cb), (4, .slice none 0 0), (5, .int .i64 0), (11, .slice pa sA.length ca), (12, .int .i64 ((subCheck sA))), (13, .bool ((((subCheck sA) : Int) != (0 : Int)))), (14, .bool false)]) ⟨rfl, rfl, rfl, rfl, rfl, rfl, rfl, (by exact congrArg (fun z => some (Value.bool z)) h3), trivial⟩ ?_
    have h3 : ¬ (((subCheck sA) : Int) ≠ (0 : Int)) := by simpa using h3
    refine WL.want (d := 14) rfl rfl rfl ?_
    refine WL.val (.slice pb sB.length cb) rfl rfl rfl (fun za zC zh zk => wp_move rfl (zh.ev rfl) zk) ?_
    refine WL.want (d := 14) rfl rfl rfl ?_
    refine WL.call rfl rfl rfl (fun za zh zC => wp_call (by kernel_rfl) rfl (hv1 (zh.ev rfl))) (check_any sB _ _ _ hB.len hB.cap (hB.below hq1).rows) ?_
    rintro _ w5 ⟨rfl, hq4⟩
    refine WL.want (d := 14) rfl rfl rfl ?_
    refine WL.val (.bool ((((subCheck sB) : Int) != (0 : Int)))) rfl rfl rfl (fun za zC zh zk => neq_26 rfl (zh.ev rfl) (zh.ev rfl) zk) ?_
    refine WL.val (.bool ((((subCheck sB) : Int) != (0 : Int)))) rfl rfl rfl (fun za zC zh zk => wp_pickF rfl (zh.ev rfl) (zh.ev rfl) zk) ?_
    refine WL.nil (WE.sub (K' := [(0, .slice pa sA.length ca), (1, .slice pb sB.length cb), (4, .slice none 0 0), (5, .int .i64 0), (18, .bool ((((subCheck sB) : Int) != (0 : Int))))]) ⟨rfl, rfl, rfl, rfl, rfl, trivial⟩ ?_)
    refine WE.next ?_
    refine WC.cond rfl (fun h6 => ?_) (fun h6 => ?_)
    · have h6 : ((subCheck sB) : Int) ≠ (0 : Int) := by simpa using h6
      refine WC.seq ?_
      refine WC.region ?_
      refine WL.val (.slice none 0 0) rfl rfl rfl (fun za zC zh zk => wp_assign rfl (zh.ev rfl) zk) ?_
      refine WL.val (.int .i64 2) rfl rfl rfl (fun za zC zh zk => wp_assign rfl (zh.ev rfl) zk) ?_
      refine WL.nil (WE.sub (K' := [(0, .slice pa sA.length ca), (1, .slice pb sB.length cb), (4, .slice none 0 0), (5, .int .i64 2), (18, .bool ((((subCheck sB) : Int) != (0 : Int))))]) ⟨rfl, rfl, rfl, rfl, rfl, trivial⟩ ?_)
      refine WE.next ?_
      refine WC.ret ?_
      refine WE.thenRet ?_
      refine WE.ret2 rfl rfl rfl ?_
      have hb7 : Below w.heap.size w w5 := (bstep hq1 hq4)
      refine ⟨_, rfl, ?_, hb7⟩
      unfold CompIs
      rw [if_neg (fun h => by first | exact subCheck_no (by assumption) h.1 | exact subCheck_no (by assumption) h.2)]
    · have h6 : ¬ (((subCheck sB) : Int) ≠ (0 : Int)) := by simpa using h6
      refine WC.skip ?_
      refine WE.next ?_
      refine WC.seq ?_
      refine WC.region ?_
      refine WL.val (.slice none 0 0) rfl rfl rfl (fun za zC zh zk => wp_assign rfl (zh.ev rfl) zk) ?_
      refine WL.nil (WE.sub (K' := [(0, .slice pa sA.length ca), (1, .slice pb sB.length cb), (4, .slice none 0 0), (5, .int .i64 0), (6, .slice none 0 0), (18, .bool ((((subCheck sB) : Int) != (0 : Int))))]) ⟨rfl, rfl, rfl, rfl, rfl, rfl, trivial⟩ ?_)
      refine WE.next ?_
      refine WC.seq ?_
      refine WC.seq ?_
      refine WC.region ?_
      refine WL.val (.slice pa sA.length ca) rfl rfl rfl (fun za zC zh zk => wp_move rfl (zh.ev rfl) zk) ?_
      refine WL.val (.int .i64 (((sA.length : Nat) : Int))) rfl rfl rfl (fun za zC zh zk => len_23 rfl (zh.ev rfl) zk) ?_
      refine WL.val (.int .i64 0) rfl rfl rfl (fun za zC zh zk => wp_move rfl (zh.ev rfl) zk) ?_
      refine WL.nil (WE.sub (K' := [(0, .slice pa sA.length ca), (1, .slice pb sB.length cb), (4, .slice none 0 0), (5, .int .i64 0), (6, .slice none 0 0), (18, .bool ((((subCheck sB) : Int) != (0 : Int)))), (19, .slice pa sA.length ca), (20, .int .i64 (((sA.length : Nat) : Int))), (21, .int .i64 0)]) ⟨rfl, rfl, rfl, rfl, rfl, rfl, rfl, rfl, rfl, trivial⟩ ?_)
      refine WE.next ?_
      refine WC.block ?_
      have hb9 : Below w.heap.size w w5 := (bstep hq1 hq4)
      have hl8 : w.heap.size ≤ w5.heap.size := (hb9).size
      have hR10 : RowE eltB w5 w5.heap.size 56 none 0 0 [] := RowE.nil
      have hokA := subCheck_ok h3
      have hokB := subCheck_ok h6
      refine WC.loop (X := Option Addr × Nat × Nat) (fun x => sA.length - x.2.2) (fun x => [(0, .slice pa sA.length ca), (1, .slice pb sB.length cb), (4, .slice none 0 0), (5, .int .i64 0), (6, .slice x.1 x.2.2 x.2.1), (18, .bool ((((subCheck sB) : Int) != (0 : Int)))), (19, .slice pa sA.length ca), (20, .int .i64 (((sA.length : Nat) : Int))), (21, .int .i64 (((x.2.2 : Nat) : Int)))]) (fun x w11 => x.2.2 ≤ sA.length ∧ w5.heap.size ≤ (w11).heap.size ∧ Below w.heap.size w w11 ∧ RowE eltB (w11) w5.heap.size 56 x.1 x.2.1 x.2.2 (((sA.take x.2.2).map (Bd.ap sB)))) ((none, 0, 0)) ⟨rfl, rfl, rfl, rfl, rfl, rfl, rfl, rfl, rfl, trivial⟩ ?_ ?_
      · exact ⟨Nat.zero_le _, Nat.le_refl _, hb9, (by simpa using hR10)⟩
      · rintro x w11 ⟨hk, hBw, hb12, ho13⟩
        refine WC.seq ?_
        refine WC.region ?_
        refine WL.val (.bool ((decide ((((x.2.2 : Nat) : Int) : Int) < (((sA.length : Nat) : Int) : Int))))) rfl rfl rfl (fun za zC zh zk => lss_3 rfl (zh.ev rfl) (zh.ev rfl) zk) ?_
        refine WL.nil (WE.sub (K' := [(0, .slice pa sA.length ca), (1, .slice pb sB.length cb), (4, .slice none 0 0), (5, .int .i64 0), (6, .slice x.1 x.2.2 x.2.1), (18, .bool ((((subCheck sB) : Int) != (0 : Int)))), (19, .slice pa sA.length ca), (20, .int .i64 (((sA.length : Nat) : Int))), (21, .int .i64 (((x.2.2 : Nat) : Int))), (22, .bool ((decide ((((x.2.2 : Nat) : Int) : Int) < (((sA.length : Nat) : Int) : Int)))))]) ⟨rfl, rfl, rfl, rfl, rfl, rfl, rfl, rfl, rfl, rfl, trivial⟩ ?_)
        refine WE.next ?_
        refine WC.seq ?_
        refine WC.cond rfl (fun h14 => ?_) (fun h14 => ?_)
        · have h14 : (((x.2.2 : Nat) : Int) : Int) < (((sA.length : Nat) : Int) : Int) := by simpa using h14
          refine WC.skip ?_
          refine WE.next ?_
          refine WC.seq ?_
          refine WC.block ?_
          refine WC.seq ?_
          refine WC.region ?_
          obtain ⟨b15, o16, A17, C18, ha19, hc20⟩ := InRow.openB hA.rows
          refine WL.val (.pointer (some ⟨b15, o16 + x.2.2 * 3, none⟩)) rfl rfl rfl (fun za zC zh zk => ix_23 (k := x.2.2) rfl (zh.ev rfl) (ha19 x.2.2 (by first | omega | (simp; omega))) (zh.ev rfl) (by first | omega | (simp; omega)) zk) ?_
          refine WL.val (.agg #[.int .i64 ((dget sA x.2.2).var), .int .i64 ((dget sA x.2.2).t.f), .slice ((A17 x.2.2)) ((dget sA x.2.2).t.args.length) ((C18 x.2.2))]) rfl rfl rfl (fun za zC zh zk => ld_56 rfl (zh.ev rfl) (bkeeps hb12 _ _ (hc20 x.2.2 (by first | omega | (simp; omega))).1) (bkeeps hb12 _ _ (hc20 x.2.2 (by first | omega | (simp; omega))).2.1) (bkeeps hb12 _ _ (hc20 x.2.2 (by first | omega | (simp; omega))).2.2.1) zk) ?_
          refine WL.step (post := NewBlk w11 56 #[.int .i64 0, .int .i64 0, .slice none 0 0]) rfl rfl rfl (fun za zC zh zk => alloc_56 rfl (zk _ _ (newBlk _ _ _))) ?_
          rintro _ w21 ⟨g22, rfl, hg23, hB24, hb25, hz26⟩
          have hl27 : w.heap.size ≤ g22 := by have z2 := (hb12).size; omega
          have hl28 : w11.heap.size ≤ g22 := by omega
          refine WL.step (post := fun _ w' => Upd g22 w21 w' ∧ Blk w' g22 56 #[.int .i64 ((dget sA x.2.2).var), .int .i64 ((dget sA x.2.2).t.f), .slice ((A17 x.2.2)) ((dget sA x.2.2).t.args.length) ((C18 x.2.2))]) rfl rfl rfl (fun za zC zh zk => st_56 rfl (zh.ev rfl) (zh.ev rfl) rfl rfl rfl hB24 (by first | decide | simp) (fun v => zk v _ ⟨((Upd.at_ _ _ _ _).trans (Upd.at_ _ _ _ _)).trans (Upd.at_ _ _ _ _), ((hB24.set_ 0 _).set_ 1 _).set_ 2 _⟩)) ?_
          rintro v32 w29 ⟨hu30, hB31⟩
          have hb33 : Below w.heap.size w w21 := (bstep hb12 hb25)
          have hb34 := upd_below hb33 hu30 (by omega)
          have hb35 := upd_below hb25 hu30 (by omega)
          refine WL.nil (WE.sub (K' := [(0, .slice pa sA.length ca), (1, .slice pb sB.length cb), (4, .slice none 0 0), (5, .int .i64 0), (6, .slice x.1 x.2.2 x.2.1), (8, .pointer (some ⟨g22, 0, none⟩)), (18, .bool ((((subCheck sB) : Int) != (0 : Int)))), (19, .slice pa sA.length ca), (20, .int .i64 (((sA.length : Nat) : Int))), (21, .int .i64 (((x.2.2 : Nat) : Int))), (22, .bool ((decide ((((x.2.2 : Nat) : Int) : Int) < (((sA.length : Nat) : Int) : Int)))))]) ⟨rfl, rfl, rfl, rfl, rfl, rfl, rfl, rfl, rfl, rfl, rfl, trivial⟩ ?_)
          refine WE.next ?_
          have ho36 := ho13.below hb35
          have hSlt : ∀ b, (fun b => (Value.slice x.1 x.2.2 x.2.1).ownBlock = some b) b → b < w29.heap.size := fun b h => (ho36.lt b h).2
          have hSlo : ∀ b, (fun b => (Value.slice x.1 x.2.2 x.2.1).ownBlock = some b) b → w5.heap.size ≤ b ∧ b < w11.heap.size := fun b h => ho13.lt b h
          have hBW : w5.heap.size ≤ w29.heap.size := by have z1 := (Nat.le_trans hBw hb35.size); omega
          have hlL : x.2.2 = (((sA.take x.2.2).map (Bd.ap sB))).length := ho36.len
          refine WC.tail3 (S := ((fun b => (Value.slice x.1 x.2.2 x.2.1).ownBlock = some b))) [(true, .val (.slice x.1 x.2.2 x.2.1)), (true, .val (.pointer (some ⟨g22, 0, none⟩))), (true, .val (.int .i64 ((dget sA x.2.2).var))), (true, .val (.slice pb sB.length cb)), (true, .val (.pointer (some ⟨g22, 1, none⟩))), (true, .val (.agg #[.int .i64 ((dget sA x.2.2).t.f), .slice ((A17 x.2.2)) ((dget sA x.2.2).t.args.length) ((C18 x.2.2))])), (true, .mem (fun v w' => NewT w29 w' (((dget sA x.2.2).t.app sB)) v) (fun v w w' hc h => InT.chg h hc (fun b hb hs => by have z := hSlt b hs; omega))), (true, .mem (fun v w' => BdNew w29 w' (((dget sA x.2.2).ap sB)) v) (fun v w w' hc h => h.chg hc hSlt)), (true, .mem (fun v w' => OneRow eltB w29 56 (((dget sA x.2.2).ap sB)) v w') (fun v w w' hc h => h.chg hc hSlt)), (true, .val undef), (true, .val undef)] [(0, .slice pa sA.length ca), (1, .slice pb sB.length cb), (4, .slice none 0 0), (5, .int .i64 0), (8, .pointer (some ⟨g22, 0, none⟩)), (18, .bool ((((subCheck sB) : Int) != (0 : Int)))), (19, .slice pa sA.length ca), (20, .int .i64 (((sA.length : Nat) : Int))), (21, .int .i64 (((x.2.2 : Nat) : Int))), (22, .bool ((decide ((((x.2.2 : Nat) : Int) : Int) < (((sA.length : Nat) : Int) : Int)))))] 9 10 ((x.2.2 + 1)) 34 6 (fun ra rc w => RowE eltB w w5.heap.size 56 ra rc (x.2.2 + 1) (((sA.take x.2.2).map (Bd.ap sB) ++ [(dget sA x.2.2).ap sB]))) (by decide) (fun ra rc w w' hb h => h.below hb) ⟨rfl, rfl, rfl, rfl, rfl, rfl, rfl, rfl, rfl, rfl, trivial⟩ (by kernel_rfl) (by kernel_rfl) (by kernel_rfl) (by kernel_rfl) (by kernel_rfl) (by kernel_rfl) ?_ ?_
          · refine ⟨.inl ⟨rfl, true, .none rfl, (fun gg b h => by cases h), fun h w => optUndef h, fun zβ za zw zc => ?_⟩, ?_⟩
            · exact wp_move rfl ((show za.eval (.tmp 6) = za.tmps.getD 6 undef from rfl).trans (zc.old 6 _ rfl (by kernel_rfl))) ⟨_, rfl, Below.refl _ _, optDef zβ rfl⟩
            refine ⟨.inl ⟨rfl, true, .none rfl, (fun gg b h => by cases h), fun h w => optUndef h, fun zβ za zw zc => ?_⟩, ?_⟩
            · exact fld_56_0 rfl (zc.kn.ev rfl) ⟨_, rfl, Below.refl _ _, optDef zβ rfl⟩
            refine ⟨.inl ⟨rfl, true, .none rfl, (fun gg b h => by cases h), fun h w => optUndef h, fun zβ za zw zc => ?_⟩, ?_⟩
            · exact ld_3 rfl ((show za.eval (.tmp 26) = za.tmps.getD 26 undef from rfl).trans (optSVal (zc.dep 1 26 (by kernel_rfl) (by decide)) rfl rfl)) (bkeeps (zc.early (by kernel_rfl)) _ _ ((hB31.cell 0).trans rfl)) ⟨_, rfl, Below.refl _ _, optDef zβ rfl⟩
            refine ⟨.inl ⟨rfl, true, .none rfl, (fun gg b h => by cases h), fun h w => optUndef h, fun zβ za zw zc => ?_⟩, ?_⟩
            · exact wp_move rfl (zc.kn.ev rfl) ⟨_, rfl, Below.refl _ _, optDef zβ rfl⟩
            refine ⟨.inl ⟨rfl, true, .none rfl, (fun gg b h => by cases h), fun h w => optUndef h, fun zβ za zw zc => ?_⟩, ?_⟩
            · exact fld_56_1 rfl (zc.kn.ev rfl) ⟨_, rfl, Below.refl _ _, optDef zβ rfl⟩
            refine ⟨.inl ⟨rfl, true, .none rfl, (fun gg b h => by cases h), fun h w => optUndef h, fun zβ za zw zc => ?_⟩, ?_⟩
            · exact ld_32 rfl ((show za.eval (.tmp 29) = za.tmps.getD 29 undef from rfl).trans (optSVal (zc.dep 4 29 (by kernel_rfl) (by decide)) rfl rfl)) (bkeeps (zc.early (by kernel_rfl)) _ _ ((hB31.cell 1).trans rfl)) (bkeeps (zc.early (by kernel_rfl)) _ _ ((hB31.cell 2).trans rfl)) ⟨_, rfl, Below.refl _ _, optDef zβ rfl⟩
            refine ⟨.inl ⟨rfl, true, .none rfl, (fun gg b h => by cases h), fun h w => optUndef h, fun zβ za zw zc => ?_⟩, ?_⟩
            · exact wp_call (by kernel_rfl) rfl (hv2 ((show za.eval (.tmp 28) = za.tmps.getD 28 undef from rfl).trans (optSVal (zc.dep 3 28 (by kernel_rfl) (by decide)) rfl rfl)) ((show za.eval (.tmp 30) = za.tmps.getD 30 undef from rfl).trans (optSVal (zc.dep 5 30 (by kernel_rfl) (by decide)) rfl rfl))) (apply_any sB (dget sA x.2.2).t _ _ _ _ (hA.parts _ (dget_mem (by omega))) (IsT.below (bstep hb34 (zc.early (by kernel_rfl))) (InT.isT (hc20 x.2.2 (by first | omega | (simp; omega))).2.2.2.1)) (hB.below (bstep hb34 (zc.early (by kernel_rfl))))) (fun v w' h => ⟨v, rfl, h.2, optDef zβ (InT.mono (fun b hb _ => Nat.le_trans (zc.early (by kernel_rfl)).size hb) h.1)⟩)
            refine ⟨.inl ⟨rfl, true, .none rfl, (fun gg b h => by cases h), fun h w => optUndef h, fun zβ za zw zc => ?_⟩, ?_⟩
            · have zv := (optSMem (zc.dep 6 31 (by kernel_rfl) (by decide)) rfl rfl)
              obtain ⟨_, a1, c1, e1, _⟩ := zv.form
              rw [e1] at zv
              exact build_56_0_1 rfl ((show za.eval (.tmp 27) = za.tmps.getD 27 undef from rfl).trans (optSVal (zc.dep 2 27 (by kernel_rfl) (by decide)) rfl rfl)) ((show za.eval (.tmp 31) = za.tmps.getD 31 undef from rfl).trans e1) ⟨_, rfl, Below.refl _ _, optDef zβ ⟨_, _, rfl, (hc20 x.2.2 (by first | omega | (simp; omega))).2.2.2.2, zv⟩⟩
            refine ⟨.inl ⟨rfl, true, .none rfl, (fun gg b h => by cases h), fun h w => optUndef h, fun zβ za zw zc => ?_⟩, ?_⟩
            · have zv := (optSMem (zc.dep 7 32 (by kernel_rfl) (by decide)) rfl rfl)
              obtain ⟨u1, u2, e1, h0, zv⟩ := zv
              exact row_23_1 rfl ((show za.eval (.tmp 32) = za.tmps.getD 32 undef from rfl).trans e1) ⟨_, rfl, balloc _ _, optDef zβ ⟨_, _, rfl, zc.chg.size, Blk.new' rfl, ⟨_, _, rfl, h0, zv.below (balloc _ _)⟩⟩⟩
            refine ⟨.inr (.inl ⟨rfl, rfl, fun za zw zc => ?_⟩), ?_⟩
            · obtain ⟨g1, cs, e1, hg1, hB1, hin⟩ := (optSMem (zc.dep 8 33 (by kernel_rfl) (by decide)) rfl rfl)
              exact wp_appE (E := eltB) (size := 3) (bytes := 40) (z := .agg #[.int .i64 0, .int .i64 0, .slice none 0 0]) rfl Try.underlying23 (by kernel_rfl) rfl (by decide) rfl ((show za.eval (.tmp 25) = za.tmps.getD 25 undef from rfl).trans (optSVal (zc.dep 0 25 (by kernel_rfl) (by decide)) rfl rfl)) ((show za.eval (.tmp 33) = za.tmps.getD 33 undef from rfl).trans e1) (ho36.below zc.below) hB1 (eltB.mono (fun b hb _ => ⟨by omega, fun e => by have z := (ho36.lt b e).2; omega⟩) hin) (by omega) (by omega) (by have z := zc.below.size; omega) (fun ra rc w' h1 h2 _ => ⟨ra, rc, rfl, h1, h2⟩)
            refine ⟨.inr (.inr ⟨rfl, rfl, 34, by kernel_rfl, rfl⟩), ?_⟩
            exact trivial
          · intro za w37 ra40 rc41 zh zv zv2 hG38 hc39 zu
            have zh := zh.cons (d := 6) zv2
            have hb42 := chg_below hb34 hc39 (fun b hb => (fun h => by have h := hSlo _ h; (try dsimp only at *); omega))
            have hB43 := chg_blk hB31 hc39 (fun h => by have h := hSlo _ h; (try dsimp only at *); omega)
            clear zu
            refine (show WE _ [(0, .slice pa sA.length ca), (1, .slice pb sB.length cb), (4, .slice none 0 0), (5, .int .i64 0), (6, .slice ra40 ((x.2.2 + 1)) rc41), (8, .pointer (some ⟨g22, 0, none⟩)), (18, .bool ((((subCheck sB) : Int) != (0 : Int)))), (19, .slice pa sA.length ca), (20, .int .i64 (((sA.length : Nat) : Int))), (21, .int .i64 (((x.2.2 : Nat) : Int))), (22, .bool ((decide ((((x.2.2 : Nat) : Int) : Int) < (((sA.length : Nat) : Int) : Int)))))] w37 _ .normal from ?_) za (zh.sub ⟨rfl, rfl, rfl, rfl, rfl, rfl, rfl, rfl, rfl, rfl, rfl, trivial⟩)
            refine WE.blockNormal ?_
            refine WE.next ?_
            refine WC.region ?_
            refine WL.val (.int .i64 ((((x.2.2 + 1) : Nat) : Int))) rfl rfl rfl (fun za zC zh zk => addb_3 rfl (zh.ev rfl) (zh.ev rfl) (wrap_eq (by omega) (by omega) (by omega)) zk) ?_
            refine WL.val (.int .i64 ((((x.2.2 + 1) : Nat) : Int))) rfl rfl rfl (fun za zC zh zk => wp_move rfl (zh.ev rfl) zk) ?_
            refine WL.nil (WE.sub (K' := [(0, .slice pa sA.length ca), (1, .slice pb sB.length cb), (4, .slice none 0 0), (5, .int .i64 0), (6, .slice ra40 ((x.2.2 + 1)) rc41), (8, .pointer (some ⟨g22, 0, none⟩)), (18, .bool ((((subCheck sB) : Int) != (0 : Int)))), (19, .slice pa sA.length ca), (20, .int .i64 (((sA.length : Nat) : Int))), (21, .int .i64 ((((x.2.2 + 1) : Nat) : Int))), (22, .bool ((decide ((((x.2.2 : Nat) : Int) : Int) < (((sA.length : Nat) : Int) : Int)))))]) ⟨rfl, rfl, rfl, rfl, rfl, rfl, rfl, rfl, rfl, rfl, rfl, trivial⟩ ?_)
            refine WE.round ((ra40, rc41, x.2.2 + 1)) ⟨rfl, rfl, rfl, rfl, rfl, rfl, rfl, rfl, rfl, trivial⟩ ?_ ?_
            · exact ⟨by (try dsimp only at *); omega, (Nat.le_trans (Nat.le_trans hBw hb35.size) hc39.size), hb42, (by rw [← take_ap (by (try dsimp only at *); omega)]; exact hG38)⟩
            · dsimp only; omega
        · have h14 : ¬ ((((x.2.2 : Nat) : Int) : Int) < (((sA.length : Nat) : Int) : Int)) := by simpa using h14
          refine WC.exit ?_
          refine WE.thenExit ?_
          refine WE.thenExit ?_
          refine WE.blockIs rfl ?_
          refine WE.next ?_
          refine WC.seq ?_
          refine WC.seq ?_
          refine WC.region ?_
          refine WL.val (.slice pb sB.length cb) rfl rfl rfl (fun za zC zh zk => wp_move rfl (zh.ev rfl) zk) ?_
          refine WL.val (.int .i64 (((sB.length : Nat) : Int))) rfl rfl rfl (fun za zC zh zk => len_23 rfl (zh.ev rfl) zk) ?_
          refine WL.val (.int .i64 0) rfl rfl rfl (fun za zC zh zk => wp_move rfl (zh.ev rfl) zk) ?_
          refine WL.nil (WE.sub (K' := [(0, .slice pa sA.length ca), (1, .slice pb sB.length cb), (4, .slice none 0 0), (5, .int .i64 0), (6, .slice x.1 x.2.2 x.2.1), (18, .bool ((((subCheck sB) : Int) != (0 : Int)))), (19, .slice pa sA.length ca), (20, .int .i64 (((sA.length : Nat) : Int))), (21, .int .i64 (((x.2.2 : Nat) : Int))), (22, .bool ((decide ((((x.2.2 : Nat) : Int) : Int) < (((sA.length : Nat) : Int) : Int))))), (36, .slice pb sB.length cb), (37, .int .i64 (((sB.length : Nat) : Int))), (38, .int .i64 0)]) ⟨rfl, rfl, rfl, rfl, rfl, rfl, rfl, rfl, rfl, rfl, rfl, rfl, rfl, trivial⟩ ?_)
          refine WE.next ?_
          refine WC.block ?_
          have hka : x.2.2 = sA.length := by omega
          have hL0 := len_cxr sA sB
          refine WC.loop (X := Option Addr × Nat × Nat × Nat) (fun y => sB.length - y.2.2.2) (fun y => [(0, .slice pa sA.length ca), (1, .slice pb sB.length cb), (4, .slice none 0 0), (5, .int .i64 0), (6, .slice y.1 y.2.2.1 y.2.1), (18, .bool ((((subCheck sB) : Int) != (0 : Int)))), (19, .slice pa sA.length ca), (20, .int .i64 (((sA.length : Nat) : Int))), (21, .int .i64 (((x.2.2 : Nat) : Int))), (22, .bool ((decide ((((x.2.2 : Nat) : Int) : Int) < (((sA.length : Nat) : Int) : Int))))), (36, .slice pb sB.length cb), (37, .int .i64 (((sB.length : Nat) : Int))), (38, .int .i64 (((y.2.2.2 : Nat) : Int)))]) (fun y w44 => y.2.2.2 ≤ sB.length ∧ w5.heap.size ≤ (w44).heap.size ∧ Below w.heap.size w w44 ∧ RowE eltB (w44) w5.heap.size 56 y.1 y.2.1 y.2.2.1 (((sA.take sA.length).map (Bd.ap sB) ++ cxr sA (sB.take y.2.2.2)))) ((x.1, x.2.1, x.2.2, 0)) ⟨rfl, rfl, rfl, rfl, rfl, rfl, rfl, rfl, rfl, rfl, rfl, rfl, rfl, trivial⟩ ?_ ?_
          · exact ⟨Nat.zero_le _, hBw, hb12, (by have z := ho13; rw [hka] at z; simpa [cxr, hka] using z)⟩
          · rintro y w44 ⟨hk2, hBw2, hb45, ho46⟩
            refine WC.seq ?_
            refine WC.region ?_
            refine WL.val (.bool ((decide ((((y.2.2.2 : Nat) : Int) : Int) < (((sB.length : Nat) : Int) : Int))))) rfl rfl rfl (fun za zC zh zk => lss_3 rfl (zh.ev rfl) (zh.ev rfl) zk) ?_
            refine WL.nil (WE.sub (K' := [(0, .slice pa sA.length ca), (1, .slice pb sB.length cb), (4, .slice none 0 0), (5, .int .i64 0), (6, .slice y.1 y.2.2.1 y.2.1), (18, .bool ((((subCheck sB) : Int) != (0 : Int)))), (19, .slice pa sA.length ca), (20, .int .i64 (((sA.length : Nat) : Int))), (21, .int .i64 (((x.2.2 : Nat) : Int))), (22, .bool ((decide ((((x.2.2 : Nat) : Int) : Int) < (((sA.length : Nat) : Int) : Int))))), (36, .slice pb sB.length cb), (37, .int .i64 (((sB.length : Nat) : Int))), (38, .int .i64 (((y.2.2.2 : Nat) : Int))), (39, .bool ((decide ((((y.2.2.2 : Nat) : Int) : Int) < (((sB.length : Nat) : Int) : Int)))))]) ⟨rfl, rfl, rfl, rfl, rfl, rfl, rfl, rfl, rfl, rfl, rfl, rfl, rfl, rfl, trivial⟩ ?_)
            refine WE.next ?_
            refine WC.seq ?_
            refine WC.cond rfl (fun h47 => ?_) (fun h47 => ?_)
            · have h47 : (((y.2.2.2 : Nat) : Int) : Int) < (((sB.length : Nat) : Int) : Int) := by simpa using h47
              refine WC.skip ?_
              refine WE.next ?_
              refine WC.seq ?_
              refine WC.block ?_
              refine WC.seq ?_
              refine WC.region ?_
              obtain ⟨b48, o49, A50, C51, ha52, hc53⟩ := InRow.openB hB.rows
              refine WL.val (.pointer (some ⟨b48, o49 + y.2.2.2 * 3, none⟩)) rfl rfl rfl (fun za zC zh zk => ix_23 (k := y.2.2.2) rfl (zh.ev rfl) (ha52 y.2.2.2 (by first | omega | (simp; omega))) (zh.ev rfl) (by first | omega | (simp; omega)) zk) ?_
              refine WL.val (.agg #[.int .i64 ((dget sB y.2.2.2).var), .int .i64 ((dget sB y.2.2.2).t.f), .slice ((A50 y.2.2.2)) ((dget sB y.2.2.2).t.args.length) ((C51 y.2.2.2))]) rfl rfl rfl (fun za zC zh zk => ld_56 rfl (zh.ev rfl) (bkeeps hb45 _ _ (hc53 y.2.2.2 (by first | omega | (simp; omega))).1) (bkeeps hb45 _ _ (hc53 y.2.2.2 (by first | omega | (simp; omega))).2.1) (bkeeps hb45 _ _ (hc53 y.2.2.2 (by first | omega | (simp; omega))).2.2.1) zk) ?_
              refine WL.step (post := NewBlk w44 56 #[.int .i64 0, .int .i64 0, .slice none 0 0]) rfl rfl rfl (fun za zC zh zk => alloc_56 rfl (zk _ _ (newBlk _ _ _))) ?_
              rintro _ w54 ⟨g55, rfl, hg56, hB57, hb58, hz59⟩
              have hl60 : w.heap.size ≤ g55 := by have z2 := (hb45).size; omega
              have hl61 : w44.heap.size ≤ g55 := by omega
              refine WL.step (post := fun _ w' => Upd g55 w54 w' ∧ Blk w' g55 56 #[.int .i64 ((dget sB y.2.2.2).var), .int .i64 ((dget sB y.2.2.2).t.f), .slice ((A50 y.2.2.2)) ((dget sB y.2.2.2).t.args.length) ((C51 y.2.2.2))]) rfl rfl rfl (fun za zC zh zk => st_56 rfl (zh.ev rfl) (zh.ev rfl) rfl rfl rfl hB57 (by first | decide | simp) (fun v => zk v _ ⟨((Upd.at_ _ _ _ _).trans (Upd.at_ _ _ _ _)).trans (Upd.at_ _ _ _ _), ((hB57.set_ 0 _).set_ 1 _).set_ 2 _⟩)) ?_
              rintro v65 w62 ⟨hu63, hB64⟩
              have hb66 : Below w.heap.size w w54 := (bstep hb45 hb58)
              have hb67 := upd_below hb66 hu63 (by omega)
              have hb68 := upd_below hb58 hu63 (by omega)
              refine WL.nil (WE.sub (K' := [(0, .slice pa sA.length ca), (1, .slice pb sB.length cb), (4, .slice none 0 0), (5, .int .i64 0), (6, .slice y.1 y.2.2.1 y.2.1), (10, .pointer (some ⟨g55, 0, none⟩)), (18, .bool ((((subCheck sB) : Int) != (0 : Int)))), (19, .slice pa sA.length ca), (20, .int .i64 (((sA.length : Nat) : Int))), (21, .int .i64 (((x.2.2 : Nat) : Int))), (22, .bool ((decide ((((x.2.2 : Nat) : Int) : Int) < (((sA.length : Nat) : Int) : Int))))), (36, .slice pb sB.length cb), (37, .int .i64 (((sB.length : Nat) : Int))), (38, .int .i64 (((y.2.2.2 : Nat) : Int))), (39, .bool ((decide ((((y.2.2.2 : Nat) : Int) : Int) < (((sB.length : Nat) : Int) : Int)))))]) ⟨rfl, rfl, rfl, rfl, rfl, rfl, rfl, rfl, rfl, rfl, rfl, rfl, rfl, rfl, rfl, trivial⟩ ?_)
              refine WE.next ?_
              refine WC.seq ?_
              refine WC.region ?_
              refine WL.val (.slice pa sA.length ca) rfl rfl rfl (fun za zC zh zk => wp_move rfl (zh.ev rfl) zk) ?_
              refine WL.val (.pointer (some ⟨g55, 0, none⟩)) rfl rfl rfl (fun za zC zh zk => fld_56_0 rfl (zh.ev rfl) zk) ?_
              refine WL.val (.int .i64 ((dget sB y.2.2.2).var)) rfl rfl rfl (fun za zC zh zk => ld_3 rfl (zh.ev rfl) ((hB64.cell 0).trans rfl) zk) ?_
              refine WL.call rfl rfl rfl (fun za zh zC => wp_call (by kernel_rfl) rfl (hv2 (zh.ev rfl) (zh.ev rfl))) (find_any sA (dget sB y.2.2.2).var _ _ _ hA.len hA.cap hA.small (hA.below hb67).rows) ?_
              rintro v74 w69 ⟨hto70, hb71⟩
              rcases hf73 : subFind sA (dget sB y.2.2.2).var with _ | t72
              · rw [hf73] at hto70
                obtain rfl : v74 = .pointer none := hto70
                refine WL.val (.bool true) rfl rfl rfl (fun za zC zh zk => eqln_57 rfl (zh.ev rfl) (zh.ev rfl) zk) ?_
                refine WL.nil (WE.sub (K' := [(0, .slice pa sA.length ca), (1, .slice pb sB.length cb), (4, .slice none 0 0), (5, .int .i64 0), (6, .slice y.1 y.2.2.1 y.2.1), (10, .pointer (some ⟨g55, 0, none⟩)), (18, .bool ((((subCheck sB) : Int) != (0 : Int)))), (19, .slice pa sA.length ca), (20, .int .i64 (((sA.length : Nat) : Int))), (21, .int .i64 (((x.2.2 : Nat) : Int))), (22, .bool ((decide ((((x.2.2 : Nat) : Int) : Int) < (((sA.length : Nat) : Int) : Int))))), (36, .slice pb sB.length cb), (37, .int .i64 (((sB.length : Nat) : Int))), (38, .int .i64 (((y.2.2.2 : Nat) : Int))), (39, .bool ((decide ((((y.2.2.2 : Nat) : Int) : Int) < (((sB.length : Nat) : Int) : Int))))), (46, .bool true)]) ⟨rfl, rfl, rfl, rfl, rfl, rfl, rfl, rfl, rfl, rfl, rfl, rfl, rfl, rfl, rfl, rfl, trivial⟩ ?_)
                refine WE.next ?_
                refine WC.condT rfl rfl ?_
                have hlen2 : y.2.2.1 ≤ sA.length + sB.length := by have z := ho46.len; have z2 := len_cxr sA (sB.take y.2.2.2); simp only [List.length_append, List.length_map, List.length_take] at z z2; omega
                have hb76 : Below w44.heap.size w44 w69 := (bstep hb68 hb71)
                have ho75 := ho46.below hb76
                have hB77 := hB64.below hb71
                have hb78 : Below w.heap.size w w69 := (bstep hb45 hb76)
                have hSlt : ∀ b, (fun b => (Value.slice y.1 y.2.2.1 y.2.1).ownBlock = some b) b → b < w69.heap.size := fun b h => (ho75.lt b h).2
                have hSlo : ∀ b, (fun b => (Value.slice y.1 y.2.2.1 y.2.1).ownBlock = some b) b → w5.heap.size ≤ b ∧ b < w44.heap.size := fun b h => ho46.lt b h
                have hBW : w5.heap.size ≤ w69.heap.size := by have z1 := (Nat.le_trans hBw2 hb76.size); omega
                have hlL : y.2.2.1 = (((sA.take sA.length).map (Bd.ap sB) ++ cxr sA (sB.take y.2.2.2))).length := ho75.len
                refine WC.tail3 (S := ((fun b => (Value.slice y.1 y.2.2.1 y.2.1).ownBlock = some b))) [(true, .val (.slice y.1 y.2.2.1 y.2.1)), (true, .val (.pointer (some ⟨g55, 0, none⟩))), (true, .val (.int .i64 ((dget sB y.2.2.2).var))), (true, .val (.pointer (some ⟨g55, 1, none⟩))), (true, .val (.agg #[.int .i64 ((dget sB y.2.2.2).t.f), .slice ((A50 y.2.2.2)) ((dget sB y.2.2.2).t.args.length) ((C51 y.2.2.2))])), (true, .mem (fun v w' => NewT w69 w' ((dget sB y.2.2.2).t) v) (fun v w w' hc h => InT.chg h hc (fun b hb hs => by have z := hSlt b hs; omega))), (true, .mem (fun v w' => BdNew w69 w' ((dget sB y.2.2.2)) v) (fun v w w' hc h => h.chg hc hSlt)), (true, .mem (fun v w' => OneRow eltB w69 56 ((dget sB y.2.2.2)) v w') (fun v w w' hc h => h.chg hc hSlt)), (true, .val undef), (true, .val undef)] [(0, .slice pa sA.length ca), (1, .slice pb sB.length cb), (4, .slice none 0 0), (5, .int .i64 0), (10, .pointer (some ⟨g55, 0, none⟩)), (18, .bool ((((subCheck sB) : Int) != (0 : Int)))), (19, .slice pa sA.length ca), (20, .int .i64 (((sA.length : Nat) : Int))), (21, .int .i64 (((x.2.2 : Nat) : Int))), (22, .bool ((decide ((((x.2.2 : Nat) : Int) : Int) < (((sA.length : Nat) : Int) : Int))))), (36, .slice pb sB.length cb), (37, .int .i64 (((sB.length : Nat) : Int))), (38, .int .i64 (((y.2.2.2 : Nat) : Int))), (39, .bool ((decide ((((y.2.2.2 : Nat) : Int) : Int) < (((sB.length : Nat) : Int) : Int))))), (46, .bool true)] 8 9 ((y.2.2.1 + 1)) 55 6 (fun ra rc w => RowE eltB w w5.heap.size 56 ra rc (y.2.2.1 + 1) ((((sA.take sA.length).map (Bd.ap sB) ++ cxr sA (sB.take y.2.2.2)) ++ [dget sB y.2.2.2]))) (by decide) (fun ra rc w w' hb h => h.below hb) ⟨rfl, rfl, rfl, rfl, rfl, rfl, rfl, rfl, rfl, rfl, rfl, rfl, rfl, rfl, rfl, trivial⟩ (by kernel_rfl) (by kernel_rfl) (by kernel_rfl) (by kernel_rfl) (by kernel_rfl) (by kernel_rfl) ?_ ?_
                · refine ⟨.inl ⟨rfl, true, .none rfl, (fun gg b h => by cases h), fun h w => optUndef h, fun zβ za zw zc => ?_⟩, ?_⟩
                  · exact wp_move rfl ((show za.eval (.tmp 6) = za.tmps.getD 6 undef from rfl).trans (zc.old 6 _ rfl (by kernel_rfl))) ⟨_, rfl, Below.refl _ _, optDef zβ rfl⟩
                  refine ⟨.inl ⟨rfl, true, .none rfl, (fun gg b h => by cases h), fun h w => optUndef h, fun zβ za zw zc => ?_⟩, ?_⟩
                  · exact fld_56_0 rfl (zc.kn.ev rfl) ⟨_, rfl, Below.refl _ _, optDef zβ rfl⟩
                  refine ⟨.inl ⟨rfl, true, .none rfl, (fun gg b h => by cases h), fun h w => optUndef h, fun zβ za zw zc => ?_⟩, ?_⟩
                  · exact ld_3 rfl ((show za.eval (.tmp 48) = za.tmps.getD 48 undef from rfl).trans (optSVal (zc.dep 1 48 (by kernel_rfl) (by decide)) rfl rfl)) (bkeeps (zc.early (by kernel_rfl)) _ _ ((hB77.cell 0).trans rfl)) ⟨_, rfl, Below.refl _ _, optDef zβ rfl⟩
                  refine ⟨.inl ⟨rfl, true, .none rfl, (fun gg b h => by cases h), fun h w => optUndef h, fun zβ za zw zc => ?_⟩, ?_⟩
                  · exact fld_56_1 rfl (zc.kn.ev rfl) ⟨_, rfl, Below.refl _ _, optDef zβ rfl⟩
                  refine ⟨.inl ⟨rfl, true, .none rfl, (fun gg b h => by cases h), fun h w => optUndef h, fun zβ za zw zc => ?_⟩, ?_⟩
                  · exact ld_32 rfl ((show za.eval (.tmp 50) = za.tmps.getD 50 undef from rfl).trans (optSVal (zc.dep 3 50 (by kernel_rfl) (by decide)) rfl rfl)) (bkeeps (zc.early (by kernel_rfl)) _ _ ((hB77.cell 1).trans rfl)) (bkeeps (zc.early (by kernel_rfl)) _ _ ((hB77.cell 2).trans rfl)) ⟨_, rfl, Below.refl _ _, optDef zβ rfl⟩
                  refine ⟨.inl ⟨rfl, true, .none rfl, (fun gg b h => by cases h), fun h w => optUndef h, fun zβ za zw zc => ?_⟩, ?_⟩
                  · exact wp_call (by kernel_rfl) rfl (hv1 ((show za.eval (.tmp 51) = za.tmps.getD 51 undef from rfl).trans (optSVal (zc.dep 4 51 (by kernel_rfl) (by decide)) rfl rfl))) (copy_any (dget sB y.2.2.2).t _ _ (hB.parts _ (dget_mem (by omega))) (IsT.below (bstep hb78 (zc.early (by kernel_rfl))) (InT.isT (hc53 y.2.2.2 (by first | omega | (simp; omega))).2.2.2.1))) (fun v w' h => ⟨v, rfl, h.2, optDef zβ (InT.mono (fun b hb _ => Nat.le_trans (zc.early (by kernel_rfl)).size hb) h.1)⟩)
                  refine ⟨.inl ⟨rfl, true, .none rfl, (fun gg b h => by cases h), fun h w => optUndef h, fun zβ za zw zc => ?_⟩, ?_⟩
                  · have zv := (optSMem (zc.dep 5 52 (by kernel_rfl) (by decide)) rfl rfl)
                    obtain ⟨_, a1, c1, e1, _⟩ := zv.form
                    rw [e1] at zv
                    exact build_56_0_1 rfl ((show za.eval (.tmp 49) = za.tmps.getD 49 undef from rfl).trans (optSVal (zc.dep 2 49 (by kernel_rfl) (by decide)) rfl rfl)) ((show za.eval (.tmp 52) = za.tmps.getD 52 undef from rfl).trans e1) ⟨_, rfl, Below.refl _ _, optDef zβ ⟨_, _, rfl, (hc53 y.2.2.2 (by first | omega | (simp; omega))).2.2.2.2, zv⟩⟩
                  refine ⟨.inl ⟨rfl, true, .none rfl, (fun gg b h => by cases h), fun h w => optUndef h, fun zβ za zw zc => ?_⟩, ?_⟩
                  · have zv := (optSMem (zc.dep 6 53 (by kernel_rfl) (by decide)) rfl rfl)
                    obtain ⟨u1, u2, e1, h0, zv⟩ := zv
                    exact row_23_1 rfl ((show za.eval (.tmp 53) = za.tmps.getD 53 undef from rfl).trans e1) ⟨_, rfl, balloc _ _, optDef zβ ⟨_, _, rfl, zc.chg.size, Blk.new' rfl, ⟨_, _, rfl, h0, zv.below (balloc _ _)⟩⟩⟩
                  refine ⟨.inr (.inl ⟨rfl, rfl, fun za zw zc => ?_⟩), ?_⟩
                  · obtain ⟨g1, cs, e1, hg1, hB1, hin⟩ := (optSMem (zc.dep 7 54 (by kernel_rfl) (by decide)) rfl rfl)
                    exact wp_appE (E := eltB) (size := 3) (bytes := 40) (z := .agg #[.int .i64 0, .int .i64 0, .slice none 0 0]) rfl Try.underlying23 (by kernel_rfl) rfl (by decide) rfl ((show za.eval (.tmp 47) = za.tmps.getD 47 undef from rfl).trans (optSVal (zc.dep 0 47 (by kernel_rfl) (by decide)) rfl rfl)) ((show za.eval (.tmp 54) = za.tmps.getD 54 undef from rfl).trans e1) (ho75.below zc.below) hB1 (eltB.mono (fun b hb _ => ⟨by omega, fun e => by have z := (ho75.lt b e).2; omega⟩) hin) (by omega) (by omega) (by have z := zc.below.size; omega) (fun ra rc w' h1 h2 _ => ⟨ra, rc, rfl, h1, h2⟩)
                  refine ⟨.inr (.inr ⟨rfl, rfl, 55, by kernel_rfl, rfl⟩), ?_⟩
                  exact trivial
                · intro za w79 ra82 rc83 zh zv zv2 hG80 hc81 zu
                  have zh := zh.cons (d := 6) zv2
                  have hb84 := chg_below hb78 hc81 (fun b hb => (fun h => by have h := hSlo _ h; (try dsimp only at *); omega))
                  have hB85 := chg_blk hB77 hc81 (fun h => by have h := hSlo _ h; (try dsimp only at *); omega)
                  clear zu
                  refine (show WE _ [(0, .slice pa sA.length ca), (1, .slice pb sB.length cb), (4, .slice none 0 0), (5, .int .i64 0), (6, .slice ra82 ((y.2.2.1 + 1)) rc83), (10, .pointer (some ⟨g55, 0, none⟩)), (18, .bool ((((subCheck sB) : Int) != (0 : Int)))), (19, .slice pa sA.length ca), (20, .int .i64 (((sA.length : Nat) : Int))), (21, .int .i64 (((x.2.2 : Nat) : Int))), (22, .bool ((decide ((((x.2.2 : Nat) : Int) : Int) < (((sA.length : Nat) : Int) : Int))))), (36, .slice pb sB.length cb), (37, .int .i64 (((sB.length : Nat) : Int))), (38, .int .i64 (((y.2.2.2 : Nat) : Int))), (39, .bool ((decide ((((y.2.2.2 : Nat) : Int) : Int) < (((sB.length : Nat) : Int) : Int))))), (46, .bool true)] w79 _ .normal from ?_) za (zh.sub ⟨rfl, rfl, rfl, rfl, rfl, rfl, rfl, rfl, rfl, rfl, rfl, rfl, rfl, rfl, rfl, rfl, trivial⟩)
                  refine WE.blockNormal ?_
                  refine WE.next ?_
                  refine WC.region ?_
                  refine WL.val (.int .i64 ((((y.2.2.2 + 1) : Nat) : Int))) rfl rfl rfl (fun za zC zh zk => addb_3 rfl (zh.ev rfl) (zh.ev rfl) (wrap_eq (by omega) (by omega) (by omega)) zk) ?_
                  refine WL.val (.int .i64 ((((y.2.2.2 + 1) : Nat) : Int))) rfl rfl rfl (fun za zC zh zk => wp_move rfl (zh.ev rfl) zk) ?_
                  refine WL.nil (WE.sub (K' := [(0, .slice pa sA.length ca), (1, .slice pb sB.length cb), (4, .slice none 0 0), (5, .int .i64 0), (6, .slice ra82 ((y.2.2.1 + 1)) rc83), (10, .pointer (some ⟨g55, 0, none⟩)), (18, .bool ((((subCheck sB) : Int) != (0 : Int)))), (19, .slice pa sA.length ca), (20, .int .i64 (((sA.length : Nat) : Int))), (21, .int .i64 (((x.2.2 : Nat) : Int))), (22, .bool ((decide ((((x.2.2 : Nat) : Int) : Int) < (((sA.length : Nat) : Int) : Int))))), (36, .slice pb sB.length cb), (37, .int .i64 (((sB.length : Nat) : Int))), (38, .int .i64 ((((y.2.2.2 + 1) : Nat) : Int))), (39, .bool ((decide ((((y.2.2.2 : Nat) : Int) : Int) < (((sB.length : Nat) : Int) : Int))))), (46, .bool true)]) ⟨rfl, rfl, rfl, rfl, rfl, rfl, rfl, rfl, rfl, rfl, rfl, rfl, rfl, rfl, rfl, rfl, trivial⟩ ?_)
                  refine WE.round ((ra82, rc83, (y.2.2.1 + 1), y.2.2.2 + 1)) ⟨rfl, rfl, rfl, rfl, rfl, rfl, rfl, rfl, rfl, rfl, rfl, rfl, rfl, trivial⟩ ?_ ?_
                  · exact ⟨by (try dsimp only at *); omega, (Nat.le_trans (Nat.le_trans hBw2 hb76.size) hc81.size), hb84, (by rw [← take_cxr (by (try dsimp only at *); omega) hf73]; exact hG80)⟩
                  · dsimp only; omega
              · rw [hf73] at hto70
                obtain ⟨b86, o87, a88, c89, rfl, h90, h91, h92⟩ := hto70
                refine WL.val (.bool false) rfl rfl rfl (fun za zC zh zk => eqlp_57 rfl (zh.ev rfl) (zh.ev rfl) zk) ?_
                refine WL.nil (WE.sub (K' := [(0, .slice pa sA.length ca), (1, .slice pb sB.length cb), (4, .slice none 0 0), (5, .int .i64 0), (6, .slice y.1 y.2.2.1 y.2.1), (10, .pointer (some ⟨g55, 0, none⟩)), (18, .bool ((((subCheck sB) : Int) != (0 : Int)))), (19, .slice pa sA.length ca), (20, .int .i64 (((sA.length : Nat) : Int))), (21, .int .i64 (((x.2.2 : Nat) : Int))), (22, .bool ((decide ((((x.2.2 : Nat) : Int) : Int) < (((sA.length : Nat) : Int) : Int))))), (36, .slice pb sB.length cb), (37, .int .i64 (((sB.length : Nat) : Int))), (38, .int .i64 (((y.2.2.2 : Nat) : Int))), (39, .bool ((decide ((((y.2.2.2 : Nat) : Int) : Int) < (((sB.length : Nat) : Int) : Int))))), (46, .bool false)]) ⟨rfl, rfl, rfl, rfl, rfl, rfl, rfl, rfl, rfl, rfl, rfl, rfl, rfl, rfl, rfl, rfl, trivial⟩ ?_)
                refine WE.next ?_
                refine WC.condF rfl rfl ?_
                refine WC.skip ?_
                refine WE.blockNormal ?_
                refine WE.next ?_
                refine WC.region ?_
                refine WL.val (.int .i64 ((((y.2.2.2 + 1) : Nat) : Int))) rfl rfl rfl (fun za zC zh zk => addb_3 rfl (zh.ev rfl) (zh.ev rfl) (wrap_eq (by omega) (by omega) (by omega)) zk) ?_
                refine WL.val (.int .i64 ((((y.2.2.2 + 1) : Nat) : Int))) rfl rfl rfl (fun za zC zh zk => wp_move rfl (zh.ev rfl) zk) ?_
                refine WL.nil (WE.sub (K' := [(0, .slice pa sA.length ca), (1, .slice pb sB.length cb), (4, .slice none 0 0), (5, .int .i64 0), (6, .slice y.1 y.2.2.1 y.2.1), (10, .pointer (some ⟨g55, 0, none⟩)), (18, .bool ((((subCheck sB) : Int) != (0 : Int)))), (19, .slice pa sA.length ca), (20, .int .i64 (((sA.length : Nat) : Int))), (21, .int .i64 (((x.2.2 : Nat) : Int))), (22, .bool ((decide ((((x.2.2 : Nat) : Int) : Int) < (((sA.length : Nat) : Int) : Int))))), (36, .slice pb sB.length cb), (37, .int .i64 (((sB.length : Nat) : Int))), (38, .int .i64 ((((y.2.2.2 + 1) : Nat) : Int))), (39, .bool ((decide ((((y.2.2.2 : Nat) : Int) : Int) < (((sB.length : Nat) : Int) : Int))))), (46, .bool false)]) ⟨rfl, rfl, rfl, rfl, rfl, rfl, rfl, rfl, rfl, rfl, rfl, rfl, rfl, rfl, rfl, rfl, trivial⟩ ?_)
                refine WE.round ((y.1, y.2.1, y.2.2.1, y.2.2.2 + 1)) ⟨rfl, rfl, rfl, rfl, rfl, rfl, rfl, rfl, rfl, rfl, rfl, rfl, rfl, trivial⟩ ?_ ?_
                · have hb93 : Below w.heap.size w w69 := (bstep hb67 hb71)
                  have hb95 : Below w44.heap.size w44 w69 := (bstep hb68 hb71)
                  have ho94 := ho46.below hb95
                  exact ⟨by (try dsimp only at *); omega, (Nat.le_trans (Nat.le_trans hBw2 hb68.size) hb71.size), hb93, (by rw [← skip_cxr (by (try dsimp only at *); omega) hf73]; exact ho94)⟩
                · dsimp only; omega
            · have h47 : ¬ ((((y.2.2.2 : Nat) : Int) : Int) < (((sB.length : Nat) : Int) : Int)) := by simpa using h47
              refine WC.exit ?_
              refine WE.thenExit ?_
              refine WE.thenExit ?_
              refine WE.blockIs rfl ?_
              refine WE.next ?_
              refine WC.seq ?_
              refine WC.region ?_
              refine WL.val (.slice y.1 y.2.2.1 y.2.1) rfl rfl rfl (fun za zC zh zk => wp_move rfl (zh.ev rfl) zk) ?_
              have hlen2 : y.2.2.1 ≤ sA.length + sB.length := by have z := ho46.len; have z2 := len_cxr sA (sB.take y.2.2.2); simp only [List.length_append, List.length_map, List.length_take] at z z2; omega
              have hSo : ∀ b, (Value.slice y.1 y.2.2.1 y.2.1).ownBlock = some b → w5.heap.size ≤ b ∧ b < w44.heap.size := fun b h => ho46.lt b h
              refine WL.call rfl rfl rfl (fun za zh zC => wp_call (by kernel_rfl) rfl (hv2 (zh.ev rfl) (zh.ev rfl))) (sortB_own ho46 (by omega) cmpIs_comp) ?_
              rintro _ w96 ⟨ls, rfl, hps, hss, hrs, hcs⟩
              have hb97 := chg_below hb45 hcs (fun b hb => (fun h => by have h := hSo _ h; (try dsimp only at *); omega))
              refine WL.nil (WE.sub (K' := [(0, .slice pa sA.length ca), (1, .slice pb sB.length cb), (4, .slice none 0 0), (5, .int .i64 0), (6, .slice y.1 y.2.2.1 y.2.1), (18, .bool ((((subCheck sB) : Int) != (0 : Int)))), (19, .slice pa sA.length ca), (20, .int .i64 (((sA.length : Nat) : Int))), (21, .int .i64 (((x.2.2 : Nat) : Int))), (22, .bool ((decide ((((x.2.2 : Nat) : Int) : Int) < (((sA.length : Nat) : Int) : Int))))), (36, .slice pb sB.length cb), (37, .int .i64 (((sB.length : Nat) : Int))), (38, .int .i64 (((y.2.2.2 : Nat) : Int))), (39, .bool ((decide ((((y.2.2.2 : Nat) : Int) : Int) < (((sB.length : Nat) : Int) : Int)))))]) ⟨rfl, rfl, rfl, rfl, rfl, rfl, rfl, rfl, rfl, rfl, rfl, rfl, rfl, rfl, trivial⟩ ?_)
              refine WE.next ?_
              refine WC.seq ?_
              refine WC.region ?_
              refine WL.val (.slice y.1 y.2.2.1 y.2.1) rfl rfl rfl (fun za zC zh zk => wp_move rfl (zh.ev rfl) zk) ?_
              have hSo2 : ∀ b, (Value.slice y.1 y.2.2.1 y.2.1).ownBlock = some b → w5.heap.size ≤ b ∧ b < w96.heap.size := fun b h => hrs.lt b h
              refine WL.call rfl rfl rfl (fun za zh zC => wp_call (by kernel_rfl) rfl (hv2 (zh.ev rfl) (zh.ev rfl))) (del_any hrs (by omega)) ?_
              rintro _ w98 ⟨rfl, hrd, hcd⟩
              have hb99 := chg_below hb97 hcd (fun b hb => (fun h => by have h := hSo2 _ h; (try dsimp only at *); omega))
              refine WL.val (.slice y.1 ((ls.filter fun x => !x.itself).length) y.2.1) rfl rfl rfl (fun za zC zh zk => wp_assign rfl (zh.ev rfl) zk) ?_
              refine WL.val (.int .i64 0) rfl rfl rfl (fun za zC zh zk => wp_assign rfl (zh.ev rfl) zk) ?_
              refine WL.nil (WE.sub (K' := [(0, .slice pa sA.length ca), (1, .slice pb sB.length cb), (4, .slice y.1 ((ls.filter fun x => !x.itself).length) y.2.1), (5, .int .i64 0), (6, .slice y.1 y.2.2.1 y.2.1), (18, .bool ((((subCheck sB) : Int) != (0 : Int)))), (19, .slice pa sA.length ca), (20, .int .i64 (((sA.length : Nat) : Int))), (21, .int .i64 (((x.2.2 : Nat) : Int))), (22, .bool ((decide ((((x.2.2 : Nat) : Int) : Int) < (((sA.length : Nat) : Int) : Int))))), (36, .slice pb sB.length cb), (37, .int .i64 (((sB.length : Nat) : Int))), (38, .int .i64 (((y.2.2.2 : Nat) : Int))), (39, .bool ((decide ((((y.2.2.2 : Nat) : Int) : Int) < (((sB.length : Nat) : Int) : Int)))))]) ⟨rfl, rfl, rfl, rfl, rfl, rfl, rfl, rfl, rfl, rfl, rfl, rfl, rfl, rfl, trivial⟩ ?_)
              refine WE.next ?_
              refine WC.ret ?_
              refine WE.ret2 rfl rfl rfl ?_
              have hRo := (hrd).inRow
              refine ⟨_, rfl, ?_, hb99⟩
              unfold CompIs
              rw [if_pos ⟨hokA, hokB⟩]
              refine ⟨_, _, _, rfl, compOf_sorted hokA hokB ?_ hss, hRo.1.mono (by decide) (fun b hb _ => by omega), hRo.2.2.1, hRo.2.2.2⟩
              rw [List.take_of_length_le (Nat.le_refl _), List.take_of_length_le (by omega)] at hps
              exact hps

end Go.Proofs.Ytgechlgdnnpoeaa
