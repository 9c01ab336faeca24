/- Arguments of a law, opened: signatures, orders, literals. -/
import Derived.Test.YtmdpiafeiopimaaOMj
import Derived.Test.YtmdpiafeiopimaaOMa
import Derived.WalkKit
import Derived.ProofKit
import Derived.JoinedCond
import Derived.OpenShut
import Derived.Test.YtmdpiafeiopimaaOMg
import Derived.Test.YtmdpiafeiopimaaOMh

/- Clauses are ordered; a clause has a maximal literal: the walks through the laws. -/
namespace Go.Proofs.Ytmdpiafeiopimaa
open Go.RowKit Go
set_option linter.unusedVariables false
set_option linter.unusedSimpArgs false
theorem smallC_of {w : World} {c : List Li} {a : Option Addr} {k : Nat} (h : IsCl w c a k) (hl : c.length ≤ 1048576) : SmallC c := ⟨hl, fun x hx => ⟨h.partsL x hx, h.partsR x hx⟩⟩
set_option maxRecDepth 100000 in
theorem max_any (sg : List Sy) (o : Od) (x : List Li) (w : World) (vs vo : Value) (ax : Option Addr) (cx : Nat) (hs : IsSig w sg vs) (ho : IsOd w o vo) (hx : IsCl w x ax cx) (lx : x.length ≤ 1048576) :
    Calls Try.prog 5 #[vs, vo, .slice ax x.length cx] w (Ret fun v' w' => v' = .bool true ∧ Below w.heap.size w w') := by
  have hst := hs
  have hot := ho
  have sx := smallC_of hx lx
  have hxr := hx.rows
  obtain ⟨p1, p2, k1, k2, rfl, _⟩ := ho
  obtain ⟨sa, sc, rfl, hs1, hs2, hs3⟩ := hs
  refine Calls.walk (l := [.agg #[.slice sa sg.length sc], .agg #[.bool o.lpo, .slice p1 o.prec.length k1, .slice p2 o.weights.length k2, .int .i64 o.var], .slice ax x.length cx]) Try.func5 rfl (by kernel_rfl) ?_
  refine WC.sub (K' := [(0, .agg #[.slice sa sg.length sc]), (1, .agg #[.bool o.lpo, .slice p1 o.prec.length k1, .slice p2 o.weights.length k2, .int .i64 o.var]), (2, .slice ax x.length cx)]) ⟨rfl, rfl, rfl, trivial⟩ ?_
  refine WC.seq ?_
  refine WC.region ?_
  refine WL.step (post := NewBlk w 24 #[.slice sa sg.length sc]) rfl rfl rfl (fun za zC zh zk => box_24 rfl (zh.ev rfl) (zk _ _ (newBlk _ _ _))) ?_
  rintro _ w1 ⟨g2, rfl, hg3, hB4, hb5, hz6⟩
  have hl7 : w.heap.size ≤ g2 := by omega
  refine WL.step (post := NewBlk w1 27 #[.bool o.lpo, .slice p1 o.prec.length k1, .slice p2 o.weights.length k2, .int .i64 o.var]) rfl rfl rfl (fun za zC zh zk => box_27 rfl (zh.ev rfl) (zk _ _ (newBlk _ _ _))) ?_
  rintro _ w8 ⟨g9, rfl, hg10, hB11, hb12, hz13⟩
  have hl14 : g2 < g9 := by have z1 := hB4.lt; omega
  have hl15 : w.heap.size ≤ g9 := by have z2 := (hb5).size; omega
  refine WL.val _ rfl rfl rfl (fun za zC zh zk => wp_assign rfl (zh.ev rfl) zk) ?_
  refine WL.nil ?_
  refine WE.next ?_
  refine WC.seq ?_
  refine WC.seq ?_
  refine WC.region ?_
  have hB16 := hB4.below hb12
  refine WL.val _ rfl rfl rfl (fun za zC zh zk => ld_24 rfl (zh.ev rfl) ((hB16.cell 0).trans rfl) zk) ?_
  refine WL.val _ rfl rfl rfl (fun za zC zh zk => ld_27 rfl (zh.ev rfl) ((hB11.cell 0).trans rfl) ((hB11.cell 1).trans rfl) ((hB11.cell 2).trans rfl) ((hB11.cell 3).trans rfl) zk) ?_
  refine WL.val _ rfl rfl rfl (fun za zC zh zk => wp_move rfl (zh.ev rfl) zk) ?_
  refine WL.step (post := NewRow w8 37 #[.slice ax x.length cx] 1) rfl rfl rfl (fun za zC zh zk => row_38_1 rfl (zh.ev rfl) (zk _ _ (newRow _ _ _ _))) ?_
  rintro _ w17 ⟨g18, rfl, hg19, hB20, hb21, hz22⟩
  have hl23 : g2 < g18 := by have z1 := hB16.lt; omega
  have hl24 : g9 < g18 := by have z1 := hB11.lt; omega
  have hb25 : Below w.heap.size w w8 := (bstep hb5 hb12)
  have hl26 : w.heap.size ≤ g18 := by have z2 := (hb25).size; omega
  have hb27 : Below w.heap.size w w17 := (bstep hb25 hb21)
  refine WL.call rfl rfl rfl (fun za zh zC => wp_call (by kernel_rfl) rfl (hv3 (zh.ev rfl) (zh.ev rfl) (zh.ev rfl))) (fits_any sg o [x] _ _ _ _ 1 (hst.below hb27) (hot.below hb27) (isCs_1 hB20 (hx.rows.below hb27)) (by simpa using sx) (by simp)) ?_
  rintro _ w28 ⟨⟨bf, rfl, hbf⟩, hbw⟩
  refine WL.val (.bool ((!bf))) rfl rfl rfl (fun za zC zh zk => wp_not rfl (zh.ev rfl) zk) ?_
  refine WL.nil ?_
  refine WE.next ?_
  refine WC.cond rfl (fun h29 => ?_) (fun h29 => ?_)
  · have h29 : ¬ (bf = true) := by simpa using h29
    refine WC.seq ?_
    refine WC.region ?_
    refine WL.call rfl rfl rfl (fun za zh zC => wp_call (by kernel_rfl) rfl (hv0)) (wakes_any _) ?_
    rintro _ w31 ⟨rfl, hq30⟩
    refine WL.val _ rfl rfl rfl (fun za zC zh zk => wp_assign rfl (zh.ev rfl) zk) ?_
    refine WL.nil ?_
    refine WE.next ?_
    refine WC.ret ?_
    refine WE.thenRet ?_
    refine WE.ret1 rfl rfl ?_
    have hb32 : Below w.heap.size w w31 := (bstep (bstep hb27 hbw) hq30)
    exact ⟨_, rfl, rfl, hb32⟩
  · have h29 : ¬ (¬ (bf = true)) := by simpa using h29
    have hF := hbf (by simpa using h29)
    have fx : ∀ q ∈ x, FitL o (sg.map (·.ar)) q := fun q hq => fitL_of (hF.may x (by simp) q hq)
    have hE : ((x.length : Int) == (0 : Int)) = x.isEmpty := by cases x with
      | nil => rfl
      | cons p q => simp; omega
    refine WC.skip ?_
    refine WE.next ?_
    refine WC.seq ?_
    refine WC.region ?_
    refine WL.val _ rfl rfl rfl (fun za zC zh zk => wp_move rfl (zh.ev rfl) zk) ?_
    refine WL.val (.int .i64 (((x.length : Nat) : Int))) rfl rfl rfl (fun za zC zh zk => len_37 rfl (zh.ev rfl) zk) ?_
    refine WL.val (.bool (((((x.length : Nat) : Int) : Int) == (0 : Int)))) rfl rfl rfl (fun za zC zh zk => eql_3 rfl (zh.ev rfl) (zh.ev rfl) zk) ?_
    refine WL.val _ rfl rfl rfl (fun za zC zh zk => wp_assign rfl (zh.ev rfl) zk) ?_
    refine WL.nil ?_
    refine WE.next ?_
    refine WC.seq ?_
    refine WC.seq ?_
    refine WC.region ?_
    refine WL.val _ rfl rfl rfl (fun za zC zh zk => wp_move rfl (zh.ev rfl) zk) ?_
    refine WL.val (.int .i64 (((x.length : Nat) : Int))) rfl rfl rfl (fun za zC zh zk => len_37 rfl (zh.ev rfl) zk) ?_
    refine WL.val _ rfl rfl rfl (fun za zC zh zk => wp_move rfl (zh.ev rfl) zk) ?_
    refine WL.nil ?_
    refine WE.next ?_
    refine WC.block ?_
    refine WC.sub (K' := [(0, .agg #[.slice sa sg.length sc]), (1, .agg #[.bool o.lpo, .slice p1 o.prec.length k1, .slice p2 o.weights.length k2, .int .i64 o.var]), (2, .slice ax x.length cx), (3, .pointer (some ⟨g2, 0, none⟩)), (4, .pointer (some ⟨g9, 0, none⟩)), (6, .bool false), (7, .bool ((((x.length : Int) == (0 : Int)) || ((List.range 0).any fun i => o.maxAt x i false)))), (15, .bool ((!bf))), (20, .slice ax x.length cx), (21, .int .i64 (((x.length : Nat) : Int))), (22, .int .i64 0)]) ⟨rfl, rfl, rfl, rfl, rfl, rfl, (congrArg (fun z => some (Value.bool z)) (by simp)), rfl, rfl, rfl, rfl, trivial⟩ ?_
    refine WC.loop (X := Nat) (fun k => x.length - k) (fun k => [(0, .agg #[.slice sa sg.length sc]), (1, .agg #[.bool o.lpo, .slice p1 o.prec.length k1, .slice p2 o.weights.length k2, .int .i64 o.var]), (2, .slice ax x.length cx), (3, .pointer (some ⟨g2, 0, none⟩)), (4, .pointer (some ⟨g9, 0, none⟩)), (7, .bool ((((x.length : Int) == (0 : Int)) || ((List.range k).any fun i => o.maxAt x i false)))), (15, .bool ((!bf))), (20, .slice ax x.length cx), (21, .int .i64 (((x.length : Nat) : Int))), (22, .int .i64 (((k : Nat) : Int)))]) (fun k w34 => k ≤ x.length ∧ Below w.heap.size w w34 ∧ Blk w34 g2 24 #[.slice sa sg.length sc] ∧ Blk w34 g9 27 #[.bool o.lpo, .slice p1 o.prec.length k1, .slice p2 o.weights.length k2, .int .i64 o.var] ∧ Blk w34 g18 37 #[.slice ax x.length cx]) 0 ⟨rfl, rfl, rfl, rfl, rfl, rfl, rfl, rfl, rfl, rfl, trivial⟩ ?_ ?_
    · have hb35 : Below w.heap.size w w28 := (bstep hb27 hbw)
      have hb37 : Below w8.heap.size w8 w28 := (bstep hb21 hbw)
      have hB36 := hB16.below hb37
      have hB38 := hB11.below hb37
      have hB39 := hB20.below hbw
      exact ⟨Nat.zero_le _, hb35, hB36, hB38, hB39⟩
    · rintro k w34 ⟨hk, hb40, hB41, hB42, hB43⟩
      refine WC.seq ?_
      refine WC.region ?_
      refine WL.val (.bool ((decide ((((k : Nat) : Int) : Int) < (((x.length : Nat) : Int) : Int))))) rfl rfl rfl (fun za zC zh zk => lss_3 rfl (zh.ev rfl) (zh.ev rfl) zk) ?_
      refine WL.nil ?_
      refine WE.next ?_
      refine WC.seq ?_
      refine WC.cond rfl (fun h44 => ?_) (fun h44 => ?_)
      · have h44 : (((k : Nat) : Int) : Int) < (((x.length : Nat) : Int) : Int) := by simpa using h44
        refine WC.skip ?_
        refine WE.next ?_
        refine WC.seq ?_
        refine WC.block ?_
        refine WC.seq ?_
        refine WC.region ?_
        refine WL.val _ rfl rfl rfl (fun za zC zh zk => wp_move rfl (zh.ev rfl) zk) ?_
        obtain ⟨b45, o46, A47, C48, A49, C50, ha51, hc52⟩ := InRow.openL hxr
        refine WL.val _ rfl rfl rfl (fun za zC zh zk => ix_37 (k := k) rfl (zh.ev rfl) (ha51 k (by first | omega | (simp; omega))) (zh.ev rfl) (by first | omega | (simp; omega)) zk) ?_
        refine WL.val _ rfl rfl rfl (fun za zC zh zk => ld_32 rfl (zh.ev rfl) (bkeeps hb40 _ _ (hc52 k (by first | omega | (simp; omega))).1) (bkeeps hb40 _ _ (hc52 k (by first | omega | (simp; omega))).2.1) (bkeeps hb40 _ _ (hc52 k (by first | omega | (simp; omega))).2.2.1) (bkeeps hb40 _ _ (hc52 k (by first | omega | (simp; omega))).2.2.2.1) (bkeeps hb40 _ _ (hc52 k (by first | omega | (simp; omega))).2.2.2.2.1) zk) ?_
        refine WL.step (post := NewBlk w34 32 #[.bool false, .int .i64 0, .slice none 0 0, .int .i64 0, .slice none 0 0]) rfl rfl rfl (fun za zC zh zk => alloc_32 rfl (zk _ _ (newBlk _ _ _))) ?_
        rintro _ w53 ⟨g54, rfl, hg55, hB56, hb57, hz58⟩
        have hl59 : g2 < g54 := by have z1 := hB41.lt; omega
        have hl60 : g9 < g54 := by have z1 := hB42.lt; omega
        have hl61 : g18 < g54 := by have z1 := hB43.lt; omega
        have hl62 : w.heap.size ≤ g54 := by have z2 := (hb40).size; omega
        refine WL.val _ rfl rfl rfl (fun za zC zh zk => wp_assign rfl (zh.ev rfl) zk) ?_
        refine WL.step (post := fun _ w' => Upd g54 w53 w' ∧ Blk w' g54 32 #[.bool ((lget x k).neg), .int .i64 ((lget x k).l.f), .slice ((A47 k)) ((lget x k).l.args.length) ((C48 k)), .int .i64 ((lget x k).r.f), .slice ((A49 k)) ((lget x k).r.args.length) ((C50 k))]) rfl rfl rfl (fun za zC zh zk => st_32 rfl (zh.ev rfl) (zh.ev rfl) rfl rfl rfl rfl rfl hB56 (by first | decide | simp) (fun v => zk v _ ⟨((((Upd.at_ _ _ _ _).trans (Upd.at_ _ _ _ _)).trans (Upd.at_ _ _ _ _)).trans (Upd.at_ _ _ _ _)).trans (Upd.at_ _ _ _ _), ((((hB56.set_ 0 _).set_ 1 _).set_ 2 _).set_ 3 _).set_ 4 _⟩)) ?_
        rintro v66 w63 ⟨hu64, hB65⟩
        have hb67 : Below w.heap.size w w53 := (bstep hb40 hb57)
        have hb68 := upd_below hb67 hu64 (by omega)
        have hB69 := hB41.below hb57
        have hB70 := upd_blk hB69 hu64 (by omega)
        have hB71 := hB42.below hb57
        have hB72 := upd_blk hB71 hu64 (by omega)
        have hB73 := hB43.below hb57
        have hB74 := upd_blk hB73 hu64 (by omega)
        refine WL.nil ?_
        refine WE.next ?_
        refine WC.seq ?_
        refine WC.seqV (S := ((fun b => b < 0))) [(true, .val (.bool ((((x.length : Int) == (0 : Int)) || ((List.range k).any fun i => o.maxAt x i false))))), (true, .val (.bool ((((x.length : Int) == (0 : Int)) || ((List.range k).any fun i => o.maxAt x i false))))), ((true && !(((x.length : Int) == (0 : Int)) || ((List.range k).any fun i => o.maxAt x i false))), .val (.agg #[.bool o.lpo, .slice p1 o.prec.length k1, .slice p2 o.weights.length k2, .int .i64 o.var])), ((true && !(((x.length : Int) == (0 : Int)) || ((List.range k).any fun i => o.maxAt x i false))), .val (.slice ax x.length cx)), ((true && !(((x.length : Int) == (0 : Int)) || ((List.range k).any fun i => o.maxAt x i false))), .val (.int .i64 (((k : Nat) : Int)))), ((true && !(((x.length : Int) == (0 : Int)) || ((List.range k).any fun i => o.maxAt x i false))), .val (.bool ((o.maxAt x k false)))), (true, .val (.bool (((((x.length : Int) == (0 : Int)) || ((List.range k).any fun i => o.maxAt x i false)) || (o.maxAt x k false))))), (true, .val undef)] [(0, .agg #[.slice sa sg.length sc]), (1, .agg #[.bool o.lpo, .slice p1 o.prec.length k1, .slice p2 o.weights.length k2, .int .i64 o.var]), (2, .slice ax x.length cx), (3, .pointer (some ⟨g2, 0, none⟩)), (4, .pointer (some ⟨g9, 0, none⟩)), (8, .int .i64 (((k : Nat) : Int))), (9, .pointer (some ⟨g54, 0, none⟩)), (15, .bool ((!bf))), (20, .slice ax x.length cx), (21, .int .i64 (((x.length : Nat) : Int))), (22, .int .i64 (((k : Nat) : Int))), (23, .bool ((decide ((((k : Nat) : Int) : Int) < (((x.length : Nat) : Int) : Int)))))] [7] [some (true, .bool (((((x.length : Int) == (0 : Int)) || ((List.range k).any fun i => o.maxAt x i false)) || (o.maxAt x k false))))] (fun _ _ => True) ((fun _ _ _ _ _ => trivial)) (by decide) ⟨rfl, rfl, rfl, rfl, rfl, rfl, rfl, rfl, rfl, rfl, rfl, rfl, trivial⟩ (by kernel_rfl) (by kernel_rfl) (by kernel_rfl) (by kernel_rfl) trivial ?_ ?_
        · refine ⟨.inl ⟨rfl, true, .none rfl, (fun gg b h => by cases h), fun h w => optUndef h, fun zβ za zw zc => ?_⟩, ?_⟩
          · exact wp_move rfl ((evt za 7).trans (zc.old 7 _ rfl (by kernel_rfl))) ⟨_, rfl, Below.refl _ _, optDef zβ rfl⟩
          refine ⟨.inl ⟨rfl, true, .none rfl, (fun gg b h => by cases h), fun h w => optUndef h, fun zβ za zw zc => ?_⟩, ?_⟩
          · exact wp_move rfl ((evt za 27).trans (optSVal (zc.dep 0 27 (by kernel_rfl) (by decide)) rfl rfl)) ⟨_, rfl, Below.refl _ _, optDef zβ rfl⟩
          refine ⟨.inl ⟨rfl, (true && !(((x.length : Int) == (0 : Int)) || ((List.range k).any fun i => o.maxAt x i false))), .no (c := (((x.length : Int) == (0 : Int)) || ((List.range k).any fun i => o.maxAt x i false))) (d := true) rfl (fun v w h => h), (fun gg b h => by cases h; rfl), fun h w => optUndef h, fun zβ za zw zc => ?_⟩, ?_⟩
          · exact ld_27 rfl (zc.kn.ev rfl) (bkeeps (Chg.toBelow zc.chg) _ _ ((hB72.cell 0).trans rfl)) (bkeeps (Chg.toBelow zc.chg) _ _ ((hB72.cell 1).trans rfl)) (bkeeps (Chg.toBelow zc.chg) _ _ ((hB72.cell 2).trans rfl)) (bkeeps (Chg.toBelow zc.chg) _ _ ((hB72.cell 3).trans rfl)) ⟨_, rfl, Below.refl _ _, optDef zβ rfl⟩
          refine ⟨.inl ⟨rfl, (true && !(((x.length : Int) == (0 : Int)) || ((List.range k).any fun i => o.maxAt x i false))), .no (c := (((x.length : Int) == (0 : Int)) || ((List.range k).any fun i => o.maxAt x i false))) (d := true) rfl (fun v w h => h), (fun gg b h => by cases h; rfl), fun h w => optUndef h, fun zβ za zw zc => ?_⟩, ?_⟩
          · exact wp_move rfl (zc.kn.ev rfl) ⟨_, rfl, Below.refl _ _, optDef zβ rfl⟩
          refine ⟨.inl ⟨rfl, (true && !(((x.length : Int) == (0 : Int)) || ((List.range k).any fun i => o.maxAt x i false))), .no (c := (((x.length : Int) == (0 : Int)) || ((List.range k).any fun i => o.maxAt x i false))) (d := true) rfl (fun v w h => h), (fun gg b h => by cases h; rfl), fun h w => optUndef h, fun zβ za zw zc => ?_⟩, ?_⟩
          · exact wp_move rfl (zc.kn.ev rfl) ⟨_, rfl, Below.refl _ _, optDef zβ rfl⟩
          refine ⟨.inl ⟨rfl, (true && !(((x.length : Int) == (0 : Int)) || ((List.range k).any fun i => o.maxAt x i false))), .no (c := (((x.length : Int) == (0 : Int)) || ((List.range k).any fun i => o.maxAt x i false))) (d := true) rfl (fun v w h => h), (fun gg b h => by cases h; rfl), fun h w => optUndef h, fun zβ za zw zc => ?_⟩, ?_⟩
          · exact wp_call (by kernel_rfl) rfl (hv4 ((evt za 29).trans (optSVal (zc.dep 2 29 (by kernel_rfl) (by decide)) rfl zβ)) ((evt za 30).trans (optSVal (zc.dep 3 30 (by kernel_rfl) (by decide)) rfl zβ)) ((evt za 31).trans (optSVal (zc.dep 4 31 (by kernel_rfl) (by decide)) rfl zβ)) (zc.kn.ev rfl)) (maximal_any o x k false _ _ _ _ (hot.below (bstep hb68 (Chg.toBelow zc.chg))) (hxr.below (bstep hb68 (Chg.toBelow zc.chg))) sx.2 sx.1 (by omega)) (fun v w' h => ⟨v, rfl, h.2, optDef zβ h.1⟩)
          refine ⟨.inl ⟨rfl, true, .none rfl, (fun gg b h => by cases h), fun h w => optUndef h, fun zβ za zw zc => ?_⟩, ?_⟩
          · exact wp_or rfl ((evt za 28).trans (optSVal (zc.dep 1 28 (by kernel_rfl) (by decide)) rfl rfl)) (fun hp => ((evt za 32).trans (optSVal (zc.dep 5 32 (by kernel_rfl) (by decide)) rfl (bMkN zβ hp)))) ⟨_, rfl, Below.refl _ _, optDef zβ rfl⟩
          refine ⟨.inr ⟨0, rfl, by kernel_rfl, true, .none rfl, (fun gg b h => by cases h), (fun h => (nomatch h)), fun zβ za zw zvals zc => ?_⟩, ?_⟩
          · obtain rfl := vlen0 zc.len
            have zn := zc.now
            exact wp_assign rfl (((evt za 33).trans (optSVal (zc.dep 6 33 (by kernel_rfl) (by decide)) rfl rfl))) ⟨_, rfl, .ofBelow (Below.refl _ _), trivial, cvIs rfl⟩
          exact trivial
        · intro za w76 zvals zh zl hG77 hc78 zu zw zk
          obtain ⟨z0, rfl⟩ := vlen1 zl
          have zh := zh.cons (d := 7) (v := .bool (((((x.length : Int) == (0 : Int)) || ((List.range k).any fun i => o.maxAt x i false)) || (o.maxAt x k false)))) (zk 0 7 7 _ _ rfl (by kernel_rfl) rfl rfl)
          have hb79 := Chg.toBelow hc78
          clear zu zw zk
          refine WE.go zh ?_
          refine WE.next ?_
          refine WC.seq ?_
          refine WC.seq ?_
          refine WC.region ?_
          have hB80 := hB72.below hb79
          refine WL.val _ rfl rfl rfl (fun za zC zh zk => ld_27 rfl (zh.ev rfl) ((hB80.cell 0).trans rfl) ((hB80.cell 1).trans rfl) ((hB80.cell 2).trans rfl) ((hB80.cell 3).trans rfl) zk) ?_
          refine WL.val _ rfl rfl rfl (fun za zC zh zk => fld_32_1 rfl (zh.ev rfl) zk) ?_
          have hB81 := hB65.below hb79
          refine WL.val _ rfl rfl rfl (fun za zC zh zk => ld_30 rfl (zh.ev rfl) ((hB81.cell 1).trans rfl) ((hB81.cell 2).trans rfl) zk) ?_
          refine WL.val _ rfl rfl rfl (fun za zC zh zk => fld_32_2 rfl (zh.ev rfl) zk) ?_
          refine WL.val _ rfl rfl rfl (fun za zC zh zk => ld_30 rfl (zh.ev rfl) ((hB81.cell 3).trans rfl) ((hB81.cell 4).trans rfl) zk) ?_
          refine WL.val (.agg #[.bool true, .int .i64 ((lget x k).l.f), .slice ((A47 k)) ((lget x k).l.args.length) ((C48 k)), .int .i64 ((lget x k).r.f), .slice ((A49 k)) ((lget x k).r.args.length) ((C50 k))]) rfl rfl rfl (fun za zC zh zk => build_32_0_1_2 rfl (zh.ev rfl) (zh.ev rfl) (zh.ev rfl) zk) ?_
          refine WL.val _ rfl rfl rfl (fun za zC zh zk => fld_32_1 rfl (zh.ev rfl) zk) ?_
          refine WL.val _ rfl rfl rfl (fun za zC zh zk => ld_30 rfl (zh.ev rfl) ((hB81.cell 1).trans rfl) ((hB81.cell 2).trans rfl) zk) ?_
          refine WL.val _ rfl rfl rfl (fun za zC zh zk => fld_32_2 rfl (zh.ev rfl) zk) ?_
          refine WL.val _ rfl rfl rfl (fun za zC zh zk => ld_30 rfl (zh.ev rfl) ((hB81.cell 3).trans rfl) ((hB81.cell 4).trans rfl) zk) ?_
          refine WL.val (.agg #[.bool false, .int .i64 ((lget x k).l.f), .slice ((A47 k)) ((lget x k).l.args.length) ((C48 k)), .int .i64 ((lget x k).r.f), .slice ((A49 k)) ((lget x k).r.args.length) ((C50 k))]) rfl rfl rfl (fun za zC zh zk => build_32_1_2 rfl (zh.ev rfl) (zh.ev rfl) zk) ?_
          have hb82 : Below w.heap.size w w76 := (bstep hb68 hb79)
          refine WL.call rfl rfl rfl (fun za zh zC => wp_call (by kernel_rfl) rfl (hv3 (zh.ev rfl) (zh.ev rfl) (zh.ev rfl))) (olits_any o ⟨true, ((lget x k)).l, ((lget x k)).r⟩ ⟨false, ((lget x k)).l, ((lget x k)).r⟩ _ _ _ _ (hot.below hb82) (isLi_mk (IsT.below hb82 (InT.isT (hc52 k (by first | omega | (simp; omega))).2.2.2.2.2.1)) (IsT.below hb82 (InT.isT (hc52 k (by first | omega | (simp; omega))).2.2.2.2.2.2))) (isLi_mk (IsT.below hb82 (InT.isT (hc52 k (by first | omega | (simp; omega))).2.2.2.2.2.1)) (IsT.below hb82 (InT.isT (hc52 k (by first | omega | (simp; omega))).2.2.2.2.2.2))) (sx.2 ((lget x k)) (lget_mem (by omega))) (sx.2 ((lget x k)) (lget_mem (by omega)))) ?_
          rintro _ w84 ⟨rfl, hq83⟩
          refine WL.val (.bool ((((o.lits ⟨true, ((lget x k)).l, ((lget x k)).r⟩ ⟨false, ((lget x k)).l, ((lget x k)).r⟩) : Int) != (3 : Int)))) rfl rfl rfl (fun za zC zh zk => neq_48 rfl (zh.ev rfl) (zh.ev rfl) zk) ?_
          refine WL.nil (WE.sub (K' := [(0, .agg #[.slice sa sg.length sc]), (1, .agg #[.bool o.lpo, .slice p1 o.prec.length k1, .slice p2 o.weights.length k2, .int .i64 o.var]), (2, .slice ax x.length cx), (3, .pointer (some ⟨g2, 0, none⟩)), (4, .pointer (some ⟨g9, 0, none⟩)), (7, .bool (((((x.length : Int) == (0 : Int)) || ((List.range k).any fun i => o.maxAt x i false)) || (o.maxAt x k false)))), (8, .int .i64 (((k : Nat) : Int))), (9, .pointer (some ⟨g54, 0, none⟩)), (15, .bool ((!bf))), (20, .slice ax x.length cx), (21, .int .i64 (((x.length : Nat) : Int))), (22, .int .i64 (((k : Nat) : Int))), (23, .bool ((decide ((((k : Nat) : Int) : Int) < (((x.length : Nat) : Int) : Int))))), (46, .bool ((((o.lits ⟨true, ((lget x k)).l, ((lget x k)).r⟩ ⟨false, ((lget x k)).l, ((lget x k)).r⟩) : Int) != (3 : Int))))]) ⟨rfl, rfl, rfl, rfl, rfl, rfl, rfl, rfl, rfl, rfl, rfl, rfl, rfl, rfl, trivial⟩ ?_)
          refine WE.next ?_
          refine WC.condF rfl (by rw [hF.od.neg (fx _ (lget_mem (by omega))).1 (fx _ (lget_mem (by omega))).2]; rfl) ?_
          refine WC.skip ?_
          refine WE.next ?_
          refine WC.seq ?_
          have hB85 := hB80.below hq83
          have hb86 : Below w.heap.size w w84 := (bstep hb82 hq83)
          refine WC.opt [(true, .val (.agg #[.bool o.lpo, .slice p1 o.prec.length k1, .slice p2 o.weights.length k2, .int .i64 o.var])), (true, .val (.slice ax x.length cx)), (true, .val (.int .i64 (((k : Nat) : Int)))), (true, .val (.bool ((o.maxAt x k true)))), (true, .val (.bool ((o.maxAt x k true)))), ((true && (o.maxAt x k true)), .val (.agg #[.bool o.lpo, .slice p1 o.prec.length k1, .slice p2 o.weights.length k2, .int .i64 o.var])), ((true && (o.maxAt x k true)), .val (.slice ax x.length cx)), ((true && (o.maxAt x k true)), .val (.int .i64 (((k : Nat) : Int)))), ((true && (o.maxAt x k true)), .val (.bool ((o.maxAt x k false)))), ((true && (o.maxAt x k true)), .val (.bool ((!(o.maxAt x k false))))), (true, .val (.bool (((o.maxAt x k true) && (!(o.maxAt x k false))))))] [(0, .agg #[.slice sa sg.length sc]), (1, .agg #[.bool o.lpo, .slice p1 o.prec.length k1, .slice p2 o.weights.length k2, .int .i64 o.var]), (2, .slice ax x.length cx), (3, .pointer (some ⟨g2, 0, none⟩)), (4, .pointer (some ⟨g9, 0, none⟩)), (7, .bool (((((x.length : Int) == (0 : Int)) || ((List.range k).any fun i => o.maxAt x i false)) || (o.maxAt x k false)))), (8, .int .i64 (((k : Nat) : Int))), (9, .pointer (some ⟨g54, 0, none⟩)), (15, .bool ((!bf))), (20, .slice ax x.length cx), (21, .int .i64 (((x.length : Nat) : Int))), (22, .int .i64 (((k : Nat) : Int))), (23, .bool ((decide ((((k : Nat) : Int) : Int) < (((x.length : Nat) : Int) : Int))))), (46, .bool ((((o.lits ⟨true, ((lget x k)).l, ((lget x k)).r⟩ ⟨false, ((lget x k)).l, ((lget x k)).r⟩) : Int) != (3 : Int))))] ⟨rfl, rfl, rfl, rfl, rfl, rfl, rfl, rfl, rfl, rfl, rfl, rfl, rfl, rfl, trivial⟩ (by kernel_rfl) (by kernel_rfl) (by kernel_rfl) ?_ ?_
          · refine ⟨⟨true, .none rfl, fun h w => optUndef h, fun zβ za zw zc => ?_⟩, ?_⟩
            · exact ld_27 rfl (zc.kn.ev rfl) (bkeeps zc.below _ _ ((hB85.cell 0).trans rfl)) (bkeeps zc.below _ _ ((hB85.cell 1).trans rfl)) (bkeeps zc.below _ _ ((hB85.cell 2).trans rfl)) (bkeeps zc.below _ _ ((hB85.cell 3).trans rfl)) ⟨_, rfl, Below.refl _ _, optDef zβ rfl⟩
            refine ⟨⟨true, .none rfl, fun h w => optUndef h, fun zβ za zw zc => ?_⟩, ?_⟩
            · exact wp_move rfl (zc.kn.ev rfl) ⟨_, rfl, Below.refl _ _, optDef zβ rfl⟩
            refine ⟨⟨true, .none rfl, fun h w => optUndef h, fun zβ za zw zc => ?_⟩, ?_⟩
            · exact wp_move rfl (zc.kn.ev rfl) ⟨_, rfl, Below.refl _ _, optDef zβ rfl⟩
            refine ⟨⟨true, .none rfl, fun h w => optUndef h, fun zβ za zw zc => ?_⟩, ?_⟩
            · exact wp_call (by kernel_rfl) rfl (hv4 ((evt za 47).trans (optVal (zc.dep 0 47 (by kernel_rfl)) rfl rfl)) ((evt za 48).trans (optVal (zc.dep 1 48 (by kernel_rfl)) rfl rfl)) ((evt za 49).trans (optVal (zc.dep 2 49 (by kernel_rfl)) rfl rfl)) (zc.kn.ev rfl)) (maximal_any o x k true _ _ _ _ (hot.below (bstep hb86 zc.below)) (hxr.below (bstep hb86 zc.below)) sx.2 sx.1 (by omega)) (fun v w' h => ⟨v, rfl, h.2, optDef zβ h.1⟩)
            refine ⟨⟨true, .none rfl, fun h w => optUndef h, fun zβ za zw zc => ?_⟩, ?_⟩
            · exact wp_move rfl ((evt za 50).trans (optVal (zc.dep 3 50 (by kernel_rfl)) rfl rfl)) ⟨_, rfl, Below.refl _ _, optDef zβ rfl⟩
            refine ⟨⟨_, .yes (c := (o.maxAt x k true)) (d := true) rfl (fun v w h => h), fun h w => optUndef h, fun zβ za zw zc => ?_⟩, ?_⟩
            · exact ld_27 rfl (zc.kn.ev rfl) (bkeeps zc.below _ _ ((hB85.cell 0).trans rfl)) (bkeeps zc.below _ _ ((hB85.cell 1).trans rfl)) (bkeeps zc.below _ _ ((hB85.cell 2).trans rfl)) (bkeeps zc.below _ _ ((hB85.cell 3).trans rfl)) ⟨_, rfl, Below.refl _ _, optDef zβ rfl⟩
            refine ⟨⟨_, .yes (c := (o.maxAt x k true)) (d := true) rfl (fun v w h => h), fun h w => optUndef h, fun zβ za zw zc => ?_⟩, ?_⟩
            · exact wp_move rfl (zc.kn.ev rfl) ⟨_, rfl, Below.refl _ _, optDef zβ rfl⟩
            refine ⟨⟨_, .yes (c := (o.maxAt x k true)) (d := true) rfl (fun v w h => h), fun h w => optUndef h, fun zβ za zw zc => ?_⟩, ?_⟩
            · exact wp_move rfl (zc.kn.ev rfl) ⟨_, rfl, Below.refl _ _, optDef zβ rfl⟩
            refine ⟨⟨_, .yes (c := (o.maxAt x k true)) (d := true) rfl (fun v w h => h), fun h w => optUndef h, fun zβ za zw zc => ?_⟩, ?_⟩
            · exact wp_call (by kernel_rfl) rfl (hv4 ((evt za 52).trans (optVal (zc.dep 5 52 (by kernel_rfl)) rfl zβ)) ((evt za 53).trans (optVal (zc.dep 6 53 (by kernel_rfl)) rfl zβ)) ((evt za 54).trans (optVal (zc.dep 7 54 (by kernel_rfl)) rfl zβ)) (zc.kn.ev rfl)) (maximal_any o x k false _ _ _ _ (hot.below (bstep hb86 zc.below)) (hxr.below (bstep hb86 zc.below)) sx.2 sx.1 (by omega)) (fun v w' h => ⟨v, rfl, h.2, optDef zβ h.1⟩)
            refine ⟨⟨_, .yes (c := (o.maxAt x k true)) (d := true) rfl (fun v w h => h), fun h w => optUndef h, fun zβ za zw zc => ?_⟩, ?_⟩
            · exact wp_not rfl ((evt za 55).trans (optVal (zc.dep 8 55 (by kernel_rfl)) rfl zβ)) ⟨_, rfl, Below.refl _ _, optDef zβ rfl⟩
            refine ⟨⟨true, .none rfl, fun h w => optUndef h, fun zβ za zw zc => ?_⟩, ?_⟩
            · exact wp_and rfl ((evt za 51).trans (optVal (zc.dep 4 51 (by kernel_rfl)) rfl rfl)) (fun hp => ((evt za 56).trans (optVal (zc.dep 9 56 (by kernel_rfl)) rfl (bMk zβ hp)))) ⟨_, rfl, Below.refl _ _, optDef zβ rfl⟩
            exact trivial
          · intro za w89 zh hb90 zu
            have zh := zh.cons (d := 57) (v := .bool (((o.maxAt x k true) && (!(o.maxAt x k false))))) (optVal (zu 10 57 (by kernel_rfl)) rfl rfl)
            clear zu
            refine WE.go zh ?_
            refine WE.next ?_
            refine WC.condF rfl (by cases e : o.maxAt x k true with
                | false => rfl
                | true => rw [maxAt_strict e]; rfl) ?_
            refine WC.skip ?_
            refine WE.blockNormal ?_
            refine WE.next ?_
            refine WC.region ?_
            refine WL.val (.int .i64 ((((k + 1) : Nat) : Int))) rfl rfl rfl (fun za zC zh zk => addb_3 rfl (zh.ev rfl) (zh.ev rfl) (wrap_eq (by omega) (by omega) (by omega)) zk) ?_
            refine WL.val _ rfl rfl rfl (fun za zC zh zk => wp_move rfl (zh.ev rfl) zk) ?_
            refine WL.nil ?_
            rw [show ((((x.length : Int) == (0 : Int)) || ((List.range k).any fun i => o.maxAt x i false)) || (o.maxAt x k false)) = (((x.length : Int) == (0 : Int)) || ((List.range (k + 1)).any fun i => o.maxAt x i false)) from by rw [List.range_succ, List.any_append]; simp [Bool.or_assoc]]
            refine WE.round (k + 1) ⟨rfl, rfl, rfl, rfl, rfl, rfl, rfl, rfl, rfl, rfl, trivial⟩ ?_ ?_
            · have hb91 : Below w.heap.size w w89 := (bstep hb86 hb90)
              have hb93 : Below w63.heap.size w63 w89 := (bstep (bstep hb79 hq83) hb90)
              have hB92 := hB70.below hb93
              have hB94 := hB85.below hb90
              have hB95 := hB74.below hb93
              exact ⟨by omega, hb91, hB92, hB94, hB95⟩
            · omega
      · have h44 : ¬ ((((k : Nat) : Int) : Int) < (((x.length : Nat) : Int) : Int)) := by simpa using h44
        refine WC.exit ?_
        refine WE.thenExit ?_
        refine WE.thenExit ?_
        refine WE.blockIs rfl ?_
        refine WE.next ?_
        refine WC.seq ?_
        refine WC.opt [(true, .val (.bool ((((x.length : Int) == (0 : Int)) || ((List.range k).any fun i => o.maxAt x i false))))), (true, .val (.bool ((((x.length : Int) == (0 : Int)) || ((List.range k).any fun i => o.maxAt x i false))))), ((true && (((x.length : Int) == (0 : Int)) || ((List.range k).any fun i => o.maxAt x i false))), .val (.bool true)), (true, .val (.bool (((((x.length : Int) == (0 : Int)) || ((List.range k).any fun i => o.maxAt x i false)) && true)))), (true, .val (.bool (((((x.length : Int) == (0 : Int)) || ((List.range k).any fun i => o.maxAt x i false)) && true))))] [(0, .agg #[.slice sa sg.length sc]), (1, .agg #[.bool o.lpo, .slice p1 o.prec.length k1, .slice p2 o.weights.length k2, .int .i64 o.var]), (2, .slice ax x.length cx), (3, .pointer (some ⟨g2, 0, none⟩)), (4, .pointer (some ⟨g9, 0, none⟩)), (7, .bool ((((x.length : Int) == (0 : Int)) || ((List.range k).any fun i => o.maxAt x i false)))), (15, .bool ((!bf))), (20, .slice ax x.length cx), (21, .int .i64 (((x.length : Nat) : Int))), (22, .int .i64 (((k : Nat) : Int))), (23, .bool ((decide ((((k : Nat) : Int) : Int) < (((x.length : Nat) : Int) : Int)))))] ⟨rfl, rfl, rfl, rfl, rfl, rfl, rfl, rfl, rfl, rfl, rfl, trivial⟩ (by kernel_rfl) (by kernel_rfl) (by kernel_rfl) ?_ ?_
        · refine ⟨⟨true, .none rfl, fun h w => optUndef h, fun zβ za zw zc => ?_⟩, ?_⟩
          · exact wp_move rfl (zc.kn.ev rfl) ⟨_, rfl, Below.refl _ _, optDef zβ rfl⟩
          refine ⟨⟨true, .none rfl, fun h w => optUndef h, fun zβ za zw zc => ?_⟩, ?_⟩
          · exact wp_move rfl ((evt za 59).trans (optVal (zc.dep 0 59 (by kernel_rfl)) rfl rfl)) ⟨_, rfl, Below.refl _ _, optDef zβ rfl⟩
          refine ⟨⟨_, .yes (c := (((x.length : Int) == (0 : Int)) || ((List.range k).any fun i => o.maxAt x i false))) (d := true) rfl (fun v w h => h), fun h w => optUndef h, fun zβ za zw zc => ?_⟩, ?_⟩
          · exact wp_call (by kernel_rfl) rfl (hv0) (wakes_any _) (fun v w' h => ⟨v, rfl, h.2, optDef zβ h.1⟩)
          refine ⟨⟨true, .none rfl, fun h w => optUndef h, fun zβ za zw zc => ?_⟩, ?_⟩
          · exact wp_and rfl ((evt za 60).trans (optVal (zc.dep 1 60 (by kernel_rfl)) rfl rfl)) (fun hp => ((evt za 61).trans (optVal (zc.dep 2 61 (by kernel_rfl)) rfl (bMk zβ hp)))) ⟨_, rfl, Below.refl _ _, optDef zβ rfl⟩
          refine ⟨⟨true, .none rfl, fun h w => optUndef h, fun zβ za zw zc => ?_⟩, ?_⟩
          · exact wp_assign rfl ((evt za 62).trans (optVal (zc.dep 3 62 (by kernel_rfl)) rfl rfl)) ⟨_, rfl, Below.refl _ _, optDef zβ rfl⟩
          exact trivial
        · intro za w97 zh hb98 zu
          have zh := zh.cons (d := 6) (v := .bool (((((x.length : Int) == (0 : Int)) || ((List.range k).any fun i => o.maxAt x i false)) && true))) (optVal (zu 4 6 (by kernel_rfl)) rfl rfl)
          clear zu
          refine WE.go zh ?_
          refine WE.next ?_
          refine WC.ret ?_
          refine WE.ret1 rfl rfl ?_
          have hb99 : Below w.heap.size w w97 := (bstep hb40 hb98)
          have hT : (((x.length : Int) == (0 : Int)) || ((List.range k).any fun i => o.maxAt x i false)) = true := by
            obtain rfl : k = x.length := by omega
            rw [hE]
            cases hx0 : x with
            | nil => rfl
            | cons p q =>
              obtain ⟨i, hi, hm⟩ := hF.od.most fx (by rw [hx0]; simp)
              rw [← hx0]
              simp only [Bool.or_eq_true, List.any_eq_true, List.mem_range]
              exact .inr ⟨i, hi, hm⟩
          exact ⟨_, rfl, congrArg Value.bool (by rw [hT]; rfl), hb99⟩
end Go.Proofs.Ytmdpiafeiopimaa

/- What a law's statement asks behind its call, where the call answers true and leaves all that was there as it was. -/
namespace Go.Proofs.Ytmdpiafeiopimaa
open Go.ChangeShapes Go.WideShapes Go.ChangeAt Go.RowKit
section
variable {H : Type} {enc : TypeId × Value → H} {P : Program}
theorem trodAll_below (hl : laidOutB P = true) {W W' : World} (hb : Below W.heap.size W W') : ∀ {ts : List TypeId} {vs : List Value} {ds : List (DataW H)} {ps : List MemPlace},
    (∀ t ∈ ts, P.readableRec t = true ∧ t < P.types.size) → (∀ x ∈ ps, x.block < W.heap.size) → DataW.TrodAll enc P W 0 (fun _ => true) true ts vs ds ps →
    DataW.TrodAll enc P W' 0 (fun b => decide (b < W.heap.size)) true ts vs ds ps
  | [], [], [], _, _, _, h => h
  | t :: ts, v :: vs, d :: ds, ps, hr, hlt, ⟨p, q, h1, h2, e⟩ => by
    subst e
    exact ⟨p, q, Below.trod hl (hr t (by simp)).1 (hr t (by simp)).2 h1 hb (fun x hx => hlt x (by simp [hx])), trodAll_below hl hb (fun t ht => hr t (by simp [ht])) (fun x hx => hlt x (by simp [hx])) h2, rfl⟩
  | [], _ :: _, _, _, _, _, h => h.elim
  | [], [], _ :: _, _, _, _, h => h.elim
  | _ :: _, [], _, _, _, _, h => h.elim
  | _ :: _, _ :: _, [], _, _, _, h => h.elim
theorem law_post {f : Func} {s : ChangeSpec} {W W' : World} {args : Array Value} {ds gs : List (DataW H)} {before : List MemPlace} {tb : TypeId} (hl : laidOutB P = true) (hr : ∀ t ∈ f.params.toList, P.readableRec t = true ∧ t < P.types.size)
    (htb : P.underlying tb = some .bool) (hrt : f.resultTypes = #[tb]) (hv : s.vars = []) (hs : s.fn H ds = { results := [.lit (.bool true)], args := ds })
    (hW : DataW.Whole enc P f.params.toList s.vars false W args.toList ds gs before) (hb : Below W.heap.size W W') : s.post enc P f false true false false W args (.bool true) W' := by
  have hlt : ∀ p ∈ before, p.block < W.heap.size := fun p hp => hW.lt p hp
  have hW0 := hW
  obtain ⟨p, q, hA, hV, hpq, _, _⟩ := hW
  rw [hv] at hV
  obtain ⟨rfl, rfl⟩ := trodVars_none hV
  refine ⟨ds, [], before, [], p, [], hW0, ?_, ?_, ?_, hb.frame _, fun h => by cases h⟩
  · rw [List.append_nil, hs, hrt]
    exact trodAll_cons_mk (shut_bool htb _) trodAll_mk0
  · rw [List.append_nil, hs]
    refine trodAll_below hl hb hr (fun x hx => hlt x ?_) hA
    rw [hpq]; simp [hx]
  · rw [List.append_nil, hv]
    have : (s.fn H ds).vars = [] := by rw [hs]
    rw [this]
    rfl
end
end Go.Proofs.Ytmdpiafeiopimaa

/- Arguments of a law, opened: terms, integers, truth values; rows in general. -/
namespace Go.Proofs.Ytmdpiafeiopimaa
open Go.ChangeShapes Go.WideShapes Go.ChangeAt Go.RowKit
theorem own : ownKnob Try.prog.godebug = none := by kernel_rfl
theorem one_le_bulk {H : Type} (d : DataW H) : 1 ≤ Rows.uptoBulk d := by
  cases d with
  | lit l => cases l <;> simp [Rows.uptoBulk]
  | _ => simp [Rows.uptoBulk]
theorem len_le_bulk {H : Type} (ds : List (DataW H)) : ds.length ≤ Rows.uptoBulkAll ds := by
  induction ds with
  | nil => simp
  | cons d r ih => have := one_le_bulk d; simp only [List.length_cons, Rows.uptoBulkAll]; omega
theorem readable_all {P : Program} {ts : List TypeId} (h : (ts.all fun t => P.readableRec t && Nat.blt t P.types.size) = true) : ∀ t ∈ ts, P.readableRec t = true ∧ t < P.types.size := by
  intro t ht
  have := List.all_eq_true.1 h t ht
  simp only [Bool.and_eq_true, Nat.blt_eq] at this
  exact this
theorem bulk_mem {H : Type} {l : List (DataW H)} (hk : Rows.uptoSmall H l = true) {d : DataW H} (h : d ∈ l) : Rows.uptoBulk d ≤ 1048576 :=
  Nat.le_trans (bulkAll_le h) (of_decide_eq_true hk)
section
variable {H : Type} {enc : TypeId × Value → H} {w : World} {base : Nat} {spare : Nat → Bool} {held : Bool}
theorem bulk_at {H : Type} : ∀ {ds : List (DataW H)} {d : DataW H}, d ∈ ds → Rows.uptoBulk d ≤ Rows.uptoBulkAll ds
  | [], _, h => nomatch h
  | x :: r, d, h => by
    rw [Rows.uptoBulkAll]
    rcases List.mem_cons.1 h with rfl | h
    · omega
    · have := bulk_at h; omega
/-- A row that was opened, as the rows of elements have it. -/
theorem inRow_of {α : Type} {E : Elt α} {R : World → α → List Value → Prop} {l : List α} {a : Option Addr} (hR : ∀ x cs, R w x cs → E.In (fun _ => True) w x cs) (h : IsRow w E.k R l a) : InRow E (fun _ => True) w l a := fun i hi => by
  obtain ⟨b, o, cs, h1, _, h3, h4⟩ := h i hi
  exact ⟨b, o, cs, h1, trivial, hR _ _ h4, h3⟩
theorem IsT.inTrue {t : T} {v : Value} (h : IsT w t v) : InT (fun _ => True) w t v := InT.mono (fun _ _ _ => trivial) (IsT.inT h)
end
end Go.Proofs.Ytmdpiafeiopimaa

/- Arguments of a law, opened: literals, clauses. -/
namespace Go.Proofs.Ytmdpiafeiopimaa
open Go.ChangeShapes Go.WideShapes Go.ChangeAt Go.RowKit
section
variable {H : Type} {enc : TypeId × Value → H} {w : World} {base : Nat} {spare : Nat → Bool} {held : Bool}
def IsLiC (w : World) (x : Li) (cs : List Value) : Prop := eltL.In (fun _ => True) w x cs
set_option maxRecDepth 100000 in
theorem open_Li (fuel : Nat) (cs : List Value) (x : DataW H × List MemPlace) (h : DataW.trod enc Try.prog w base spare held fuel 32 cs = some x) :
    ∃ y : Li, IsLiC w y cs ∧ 1 + y.size ≤ Rows.uptoBulk x.1 := by
  have hC : Try.prog.cellsOf 32 = 5 := by kernel_rfl
  have hC4 : Try.prog.cellsOf 4 = 1 := by kernel_rfl
  have hC32 : Try.prog.cellsOf 30 = 2 := by kernel_rfl
  obtain ⟨xs, n, rfl, rfl, hl, hlen, hf⟩ := DataW.trod_struct Try.underlying32 h
  rw [hC] at hl
  match xs, hlen, cs, hl with
  | [y0, y1, y2], _, [c0, c1, c2, c3, c4], _ =>
    have g0 : DataW.trod enc Try.prog w base spare held n 4 [c0] = some y0 := by simpa [hC4] using hf 0 _ rfl
    have g1 : DataW.trod enc Try.prog w base spare held n 30 [c1, c2] = some y1 := by simpa [hC32] using hf 1 _ rfl
    have g2 : DataW.trod enc Try.prog w base spare held n 30 [c3, c4] = some y2 := by simpa [hC32] using hf 2 _ rfl
    obtain ⟨b, e0, rfl⟩ := DataW.trod_bool Try.underlying4 g0
    simp only [List.cons.injEq, and_true] at e0
    subst e0
    obtain ⟨t1, u1, u2, e1, h1, s1⟩ := open_T _ _ _ g1
    obtain ⟨t2, u3, u4, e2, h2, s2⟩ := open_T _ _ _ g2
    simp only [List.cons.injEq, and_true] at e1 e2
    obtain ⟨rfl, rfl⟩ := e1
    obtain ⟨rfl, rfl⟩ := e2
    exact ⟨⟨b, t1, t2⟩, ⟨_, _, _, _, rfl, h1.inTrue, h2.inTrue⟩, by simp only [List.map_cons, List.map_nil, Rows.uptoBulk, Rows.uptoBulkAll, Li.size]; omega⟩
set_option maxRecDepth 100000 in
theorem arg_Cl {r : Reach} {b : Nat} {v : Value} {d : DataW H} {p : List MemPlace} (h : Value.okWide Try.prog w r b 37 v) (ht : DataW.Trod enc Try.prog w base spare held 37 v d p) (hk : Rows.uptoBulk d ≤ 1048576) :
    ∃ (l : List Li) (a : Option Addr) (c : Nat), v = .slice a l.length c ∧ IsCl w l a c ∧ l.length ≤ 1048576 ∧ ∀ x ∈ l, x.size ≤ 1048576 := by
  obtain ⟨a, n, c, rfl⟩ := okWide_slice Try.underlying37 h
  obtain ⟨fuel, hf⟩ := ht
  obtain ⟨l, a', c', ds, sp, e, h1, h2, h3, h4, h5, h6⟩ := open_row Try.underlying37 (k := 5) (by kernel_rfl) (by omega) hf (R := IsLiC) (S := fun y d => 1 + y.size ≤ Rows.uptoBulk d) (fun n cs x hx => open_Li n cs x hx)
  have e' : Value.slice a n c = .slice a' l.length c' := by simpa [Value.cells] using e
  have hlen : l.length ≤ 1048576 := by
    rcases h5 with ⟨_, rfl, _⟩ | e
    · simp
    · have := len_le_bulk ds
      have e2 : d = .slice ds sp := e
      rw [e2] at hk; simp only [Rows.uptoBulk] at hk; omega
  have hsz : ∀ x ∈ l, x.size ≤ 1048576 := fun x hx => by
    obtain ⟨i, hi, rfl⟩ := List.getElem_of_mem hx
    have hs := h6 i hi (by omega)
    rcases h5 with ⟨_, rfl, _⟩ | e
    · simp at hi
    · have := bulk_at (List.getElem_mem (show i < ds.length by omega))
      have e2 : d = .slice ds sp := e
      rw [e2] at hk; simp only [Rows.uptoBulk] at hk; omega
  exact ⟨l, a', c', e', ⟨inRow_of (E := eltL) (fun _ _ h => h) h3, h1, h2, by omega, fun x hx => by have := hsz x hx; unfold Li.size at this; omega, fun x hx => by have := hsz x hx; unfold Li.size at this; omega⟩, hlen, hsz⟩
end
end Go.Proofs.Ytmdpiafeiopimaa

namespace Go.Proofs.Ytmdpiafeiopimaa
open Go.ChangeShapes Go.WideShapes Go.ChangeAt Go.RowKit
section
variable {H : Type} {enc : TypeId × Value → H} {w : World} {base : Nat} {spare : Nat → Bool} {held : Bool}
set_option maxRecDepth 100000 in
theorem arg_Od {r : Reach} {b : Nat} {v : Value} {d : DataW H} {p : List MemPlace} (h : Value.okWide Try.prog w r b 27 v) (ht : DataW.Trod enc Try.prog w base spare held 27 v d p) :
    ∃ o : Od, IsOd w o v := by
  obtain ⟨cs, rfl, _⟩ := okWide_struct Try.underlying27 h
  obtain ⟨fuel, hf⟩ := ht
  obtain ⟨t, v0, v1, v2, v3, e, h1⟩ := open_Od _ _ _ hf
  have e' : cs = #[v0, v1, v2, v3] := by
    apply Array.toList_inj.1
    exact e
  subst e'
  exact ⟨t, h1⟩
set_option maxRecDepth 100000 in
theorem arg_Sig {r : Reach} {b : Nat} {v : Value} {d : DataW H} {p : List MemPlace} (h : Value.okWide Try.prog w r b 24 v) (ht : DataW.Trod enc Try.prog w base spare held 24 v d p) :
    ∃ l : List Sy, IsSig w l v := by
  obtain ⟨cs, rfl, _⟩ := okWide_struct Try.underlying24 h
  obtain ⟨fuel, hf⟩ := ht
  obtain ⟨l, u, e, h1⟩ := open_Sig _ _ _ hf
  have e' : cs = #[u] := by
    apply Array.toList_inj.1
    exact e
  subst e'
  exact ⟨l, h1⟩
end
end Go.Proofs.Ytmdpiafeiopimaa
