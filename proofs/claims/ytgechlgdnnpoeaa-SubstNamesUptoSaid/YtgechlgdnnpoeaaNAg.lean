/- Literals, clauses by a substitution: the program and the document; clauses compared. -/
import Derived.Test.YtgechlgdnnpoeaaNAb
import Derived.Test.YtgechlgdnnpoeaaNAf

namespace Go.Proofs.Ytgechlgdnnpoeaa
open Go.RowKit Go

def Li.app (s : List Bd) (x : Li) : Li := ⟨x.neg, x.l.app s, x.r.app s⟩
instance : DecidableEq Li := fun x y => decidable_of_iff (x.neg = y.neg ∧ x.l = y.l ∧ x.r = y.r) (by cases x; cases y; simp)
def clSame (a b : List Li) : Bool := decide (a = b)
theorem eltL.below' {S : Nat → Prop} {w w' : World} {x : Li} {cs : List Value} (hb : Below w.heap.size w w') (h : eltL.In S w x cs) : eltL.In S w' x cs := Elt.below h hb

set_option maxRecDepth 100000 in
theorem lit_any (s : List Bd) (x : Li) (w : World) (v : Value) (sa : Option Addr) (sc : Nat) (hz1 : x.l.size ≤ 4294967296) (hz2 : x.r.size ≤ 4294967296) (hv : IsLi w x v) (hs : IsSub w s sa sc) : Calls Try.prog 29 #[.slice sa s.length sc, v] w (Ret fun v' w' => NewL w w' (x.app s) v' ∧ Below w.heap.size w w') := by
  obtain ⟨a1, a2, c1, c2, rfl, hl, hr⟩ := hv.form
  refine Calls.walk (l := [.slice sa s.length sc, .agg #[.bool x.neg, .int .i64 x.l.f, .slice a1 x.l.args.length c1, .int .i64 x.r.f, .slice a2 x.r.args.length c2]]) Try.func29 rfl (by kernel_rfl) ?_
  refine WC.sub (K' := [(0, .slice sa s.length sc), (1, .agg #[.bool x.neg, .int .i64 x.l.f, .slice a1 x.l.args.length c1, .int .i64 x.r.f, .slice a2 x.r.args.length c2])]) ⟨rfl, rfl, trivial⟩ ?_
  refine WC.seq ?_
  refine WC.region ?_
  refine WL.step (post := NewBlk w 44 #[.bool x.neg, .int .i64 x.l.f, .slice a1 x.l.args.length c1, .int .i64 x.r.f, .slice a2 x.r.args.length c2]) rfl rfl rfl (fun za zC zh zk => box_44 rfl (zh.ev rfl) (zk _ _ (newBlk _ _ _))) ?_
  rintro _ w1 ⟨g2, rfl, hg3, hB4, hb5, hz6⟩
  have hl7 : w.heap.size ≤ g2 := by omega
  refine WL.step (post := NewBlk w1 44 #[.bool false, .int .i64 0, .slice none 0 0, .int .i64 0, .slice none 0 0]) rfl rfl rfl (fun za zC zh zk => alloc_44 rfl (zk _ _ (newBlk _ _ _))) ?_
  rintro _ w8 ⟨g9, rfl, hg10, hB11, hb12, hz13⟩
  have hl14 : g2 < g9 := by have z1 := hB4.lt; omega
  have hl15 : w.heap.size ≤ g9 := by have z2 := (hb5).size; omega
  refine WL.nil (WE.sub (K' := [(0, .slice sa s.length sc), (1, .agg #[.bool x.neg, .int .i64 x.l.f, .slice a1 x.l.args.length c1, .int .i64 x.r.f, .slice a2 x.r.args.length c2]), (3, .pointer (some ⟨g2, 0, none⟩)), (4, .pointer (some ⟨g9, 0, none⟩))]) ⟨rfl, rfl, rfl, rfl, trivial⟩ ?_)
  refine WE.next ?_
  refine WC.seq ?_
  have hB16 := hB4.below hb12
  have hb17 : Below w.heap.size w w8 := (bstep hb5 hb12)
  have hSlt : ∀ b, (fun b => b = g9) b → b < w8.heap.size := fun b e => e ▸ hB11.lt
  have hgl : g9 < w8.heap.size := hB11.lt
  refine WC.tail1 (S := ((fun b => b = g9))) [(true, .val (.pointer (some ⟨g2, 0, none⟩))), (true, .val (.bool x.neg)), (true, .val (.slice sa s.length sc)), (true, .val (.pointer (some ⟨g2, 1, none⟩))), (true, .val (.agg #[.int .i64 x.l.f, .slice a1 x.l.args.length c1])), (true, .mem (fun v w' => NewT w8 w' ((x.app s).l) v) (fun v w w' hc h => InT.chg h hc (fun b hb hs => by have z := hSlt b hs; omega))), (true, .val (.slice sa s.length sc)), (true, .val (.pointer (some ⟨g2, 3, none⟩))), (true, .val (.agg #[.int .i64 x.r.f, .slice a2 x.r.args.length c2])), (true, .mem (fun v w' => NewT w8 w' ((x.app s).r) v) (fun v w w' hc h => InT.chg h hc (fun b hb hs => by have z := hSlt b hs; omega))), (true, .mem (fun v w' => NewL w8 w' ((x.app s)) v) (fun v w w' hc h => NewL.chg h hc (fun b hb hs => by have z := hSlt b hs; omega))), (true, .val undef)] [(0, .slice sa s.length sc), (1, .agg #[.bool x.neg, .int .i64 x.l.f, .slice a1 x.l.args.length c1, .int .i64 x.r.f, .slice a2 x.r.args.length c2]), (3, .pointer (some ⟨g2, 0, none⟩)), (4, .pointer (some ⟨g9, 0, none⟩))] 11 (fun wz => LiBox w8 wz g9 44 ((x.app s))) (fun w w' hb h => h.below hb) ⟨rfl, rfl, rfl, rfl, trivial⟩ (by kernel_rfl) (by kernel_rfl) (by kernel_rfl) (by kernel_rfl) ?_ ?_
  · refine ⟨.inl ⟨rfl, true, .none rfl, (fun gg b h => by cases h), fun h w => optUndef h, fun zβ za zw zc => ?_⟩, ?_⟩
    · exact fld_44_0 rfl (zc.kn.ev rfl) ⟨_, rfl, Below.refl _ _, optDef zβ rfl⟩
    refine ⟨.inl ⟨rfl, true, .none rfl, (fun gg b h => by cases h), fun h w => optUndef h, fun zβ za zw zc => ?_⟩, ?_⟩
    · exact ld_4 rfl ((show za.eval (.tmp 5) = za.tmps.getD 5 undef from rfl).trans (optSVal (zc.dep 0 5 (by kernel_rfl) (by decide)) rfl rfl)) (bkeeps (zc.early (by kernel_rfl)) _ _ ((hB16.cell 0).trans rfl)) ⟨_, rfl, Below.refl _ _, optDef zβ rfl⟩
    refine ⟨.inl ⟨rfl, true, .none rfl, (fun gg b h => by cases h), fun h w => optUndef h, fun zβ za zw zc => ?_⟩, ?_⟩
    · exact wp_move rfl (zc.kn.ev rfl) ⟨_, rfl, Below.refl _ _, optDef zβ rfl⟩
    refine ⟨.inl ⟨rfl, true, .none rfl, (fun gg b h => by cases h), fun h w => optUndef h, fun zβ za zw zc => ?_⟩, ?_⟩
    · exact fld_44_1 rfl (zc.kn.ev rfl) ⟨_, rfl, Below.refl _ _, optDef zβ rfl⟩
    refine ⟨.inl ⟨rfl, true, .none rfl, (fun gg b h => by cases h), fun h w => optUndef h, fun zβ za zw zc => ?_⟩, ?_⟩
    · exact ld_32 rfl ((show za.eval (.tmp 8) = za.tmps.getD 8 undef from rfl).trans (optSVal (zc.dep 3 8 (by kernel_rfl) (by decide)) rfl rfl)) (bkeeps (zc.early (by kernel_rfl)) _ _ ((hB16.cell 1).trans rfl)) (bkeeps (zc.early (by kernel_rfl)) _ _ ((hB16.cell 2).trans rfl)) ⟨_, rfl, Below.refl _ _, optDef zβ rfl⟩
    refine ⟨.inl ⟨rfl, true, .none rfl, (fun gg b h => by cases h), fun h w => optUndef h, fun zβ za zw zc => ?_⟩, ?_⟩
    · exact wp_call (by kernel_rfl) rfl (hv2 ((show za.eval (.tmp 7) = za.tmps.getD 7 undef from rfl).trans (optSVal (zc.dep 2 7 (by kernel_rfl) (by decide)) rfl rfl)) ((show za.eval (.tmp 9) = za.tmps.getD 9 undef from rfl).trans (optSVal (zc.dep 4 9 (by kernel_rfl) (by decide)) rfl rfl))) (apply_any s x.l _ _ _ _ hz1 (IsT.below (bstep hb17 (zc.early (by kernel_rfl))) hl) (hs.below (bstep hb17 (zc.early (by kernel_rfl))))) (fun v w' h => ⟨v, rfl, h.2, optDef zβ (InT.mono (fun b hb _ => Nat.le_trans (zc.early (by kernel_rfl)).size hb) h.1)⟩)
    refine ⟨.inl ⟨rfl, true, .none rfl, (fun gg b h => by cases h), fun h w => optUndef h, fun zβ za zw zc => ?_⟩, ?_⟩
    · exact wp_move rfl (zc.kn.ev rfl) ⟨_, rfl, Below.refl _ _, optDef zβ rfl⟩
    refine ⟨.inl ⟨rfl, true, .none rfl, (fun gg b h => by cases h), fun h w => optUndef h, fun zβ za zw zc => ?_⟩, ?_⟩
    · exact fld_44_2 rfl (zc.kn.ev rfl) ⟨_, rfl, Below.refl _ _, optDef zβ rfl⟩
    refine ⟨.inl ⟨rfl, true, .none rfl, (fun gg b h => by cases h), fun h w => optUndef h, fun zβ za zw zc => ?_⟩, ?_⟩
    · exact ld_32 rfl ((show za.eval (.tmp 12) = za.tmps.getD 12 undef from rfl).trans (optSVal (zc.dep 7 12 (by kernel_rfl) (by decide)) rfl rfl)) (bkeeps (zc.early (by kernel_rfl)) _ _ ((hB16.cell 3).trans rfl)) (bkeeps (zc.early (by kernel_rfl)) _ _ ((hB16.cell 4).trans rfl)) ⟨_, rfl, Below.refl _ _, optDef zβ rfl⟩
    refine ⟨.inl ⟨rfl, true, .none rfl, (fun gg b h => by cases h), fun h w => optUndef h, fun zβ za zw zc => ?_⟩, ?_⟩
    · exact wp_call (by kernel_rfl) rfl (hv2 ((show za.eval (.tmp 11) = za.tmps.getD 11 undef from rfl).trans (optSVal (zc.dep 6 11 (by kernel_rfl) (by decide)) rfl rfl)) ((show za.eval (.tmp 13) = za.tmps.getD 13 undef from rfl).trans (optSVal (zc.dep 8 13 (by kernel_rfl) (by decide)) rfl rfl))) (apply_any s x.r _ _ _ _ hz2 (IsT.below (bstep hb17 (zc.early (by kernel_rfl))) hr) (hs.below (bstep hb17 (zc.early (by kernel_rfl))))) (fun v w' h => ⟨v, rfl, h.2, optDef zβ (InT.mono (fun b hb _ => Nat.le_trans (zc.early (by kernel_rfl)).size hb) h.1)⟩)
    refine ⟨.inl ⟨rfl, true, .none rfl, (fun gg b h => by cases h), fun h w => optUndef h, fun zβ za zw zc => ?_⟩, ?_⟩
    · have z1 := (optSMem (zc.dep 5 10 (by kernel_rfl) (by decide)) rfl rfl)
      obtain ⟨_, a1, c1, e1, _⟩ := z1.form
      rw [e1] at z1
      have z2 := (optSMem (zc.dep 9 14 (by kernel_rfl) (by decide)) rfl rfl)
      obtain ⟨_, a2, c2, e2, _⟩ := z2.form
      rw [e2] at z2
      exact build_44_0_1_2 rfl ((show za.eval (.tmp 6) = za.tmps.getD 6 undef from rfl).trans (optSVal (zc.dep 1 6 (by kernel_rfl) (by decide)) rfl rfl)) ((show za.eval (.tmp 10) = za.tmps.getD 10 undef from rfl).trans e1) ((show za.eval (.tmp 14) = za.tmps.getD 14 undef from rfl).trans e2) ⟨_, rfl, Below.refl _ _, optDef zβ (newL_mk (x := (x.app s)) z1 z2)⟩
    refine ⟨.inr ⟨rfl, rfl, fun za zw zc => ?_⟩, ?_⟩
    · have zv := (optSMem (zc.dep 10 15 (by kernel_rfl) (by decide)) rfl rfl)
      obtain ⟨a1, a2, c1, c2, e1⟩ := zv.parts
      rw [e1] at zv
      exact st_44 rfl (zc.kn.ev rfl) ((show za.eval (.tmp 15) = za.tmps.getD 15 undef from rfl).trans e1) rfl rfl rfl rfl rfl (hB11.below zc.below) (by decide) (fun v => ⟨v, rfl, ⟨a1, a2, c1, c2, ((((hB11.below zc.below).set_ 0 _).set_ 1 _).set_ 2 _ |>.set_ 3 _).set_ 4 _, zv.chg (S := fun b => b = g9) (.ofUpd (((((Upd.at_ _ _ _ _).trans (Upd.at_ _ _ _ _)).trans (Upd.at_ _ _ _ _)).trans (Upd.at_ _ _ _ _)).trans (Upd.at_ _ _ _ _)) rfl) (fun b hb e => by (try dsimp only at *); omega)⟩, .ofUpd (((((Upd.at_ _ _ _ _).trans (Upd.at_ _ _ _ _)).trans (Upd.at_ _ _ _ _)).trans (Upd.at_ _ _ _ _)).trans (Upd.at_ _ _ _ _)) rfl⟩)
    exact trivial
  · intro za w18 zh hG19 hc20 zu
    have hb21 := chg_below hb17 hc20 (fun b hb => (by (try dsimp only at *); omega))
    have hB22 := chg_blk hB16 hc20 (by (try dsimp only at *); omega)
    obtain ⟨a23, a24, c25, c26, hB27, hn28⟩ := hG19
    clear zu
    refine (show WE _ [(0, .slice sa s.length sc), (1, .agg #[.bool x.neg, .int .i64 x.l.f, .slice a1 x.l.args.length c1, .int .i64 x.r.f, .slice a2 x.r.args.length c2]), (3, .pointer (some ⟨g2, 0, none⟩)), (4, .pointer (some ⟨g9, 0, none⟩))] w18 _ .normal from ?_) za (zh.sub ⟨rfl, rfl, rfl, rfl, trivial⟩)
    refine WE.next ?_
    refine WC.ret ?_
    refine WE.retAny (v := .agg #[.bool ((x.app s).neg), .int .i64 ((x.app s).l.f), .slice a23 ((x.app s).l.args.length) c25, .int .i64 ((x.app s).r.f), .slice a24 ((x.app s).r.args.length) c26]) (fun za zh => ?_) ?_
    · have z0 : za.tmps[4]?.getD undef = .pointer (some ⟨g9, 0, none⟩) := by rw [← Array.getD_eq_getD_getElem?]; exact zh.knows 4 _ rfl
      have y0 : w18.cell? ⟨g9, 0, none⟩ = some (.bool ((x.app s).neg)) := ((hB27.cell 0).trans rfl)
      have y1 : w18.cell? ⟨g9, 1, none⟩ = some (.int .i64 ((x.app s).l.f)) := ((hB27.cell 1).trans rfl)
      have y2 : w18.cell? ⟨g9, 2, none⟩ = some (.slice a23 ((x.app s).l.args.length) c25) := ((hB27.cell 2).trans rfl)
      have y3 : w18.cell? ⟨g9, 3, none⟩ = some (.int .i64 ((x.app s).r.f)) := ((hB27.cell 3).trans rfl)
      have y4 : w18.cell? ⟨g9, 4, none⟩ = some (.slice a24 ((x.app s).r.args.length) c26) := ((hB27.cell 4).trans rfl)
      simp [results, Try.results29, z0, y0, y1, y2, y3, y4, go_sem]
    · have hgz := (hb17).size
      exact ⟨_, rfl, (hn28).older (by omega), hb21⟩

set_option maxRecDepth 100000 in
theorem rlit_any (s : List Bd) (x : Li) (w : World) (v : Value) (sa : Option Addr) (sc : Nat) (hz1 : x.l.size ≤ 4294967296) (hz2 : x.r.size ≤ 4294967296) (hv : IsLi w x v) (hs : IsSub w s sa sc) : Calls Try.prog 30 #[.slice sa s.length sc, v] w (Ret fun v' w' => NewL w w' (x.app s) v' ∧ Below w.heap.size w w') := by
  obtain ⟨a1, a2, c1, c2, rfl, hl, hr⟩ := hv.form
  refine Calls.walk (l := [.slice sa s.length sc, .agg #[.bool x.neg, .int .i64 x.l.f, .slice a1 x.l.args.length c1, .int .i64 x.r.f, .slice a2 x.r.args.length c2]]) Try.func30 rfl (by kernel_rfl) ?_
  refine WC.sub (K' := [(0, .slice sa s.length sc), (1, .agg #[.bool x.neg, .int .i64 x.l.f, .slice a1 x.l.args.length c1, .int .i64 x.r.f, .slice a2 x.r.args.length c2])]) ⟨rfl, rfl, trivial⟩ ?_
  refine WC.seq ?_
  refine WC.region ?_
  refine WL.step (post := NewBlk w 44 #[.bool x.neg, .int .i64 x.l.f, .slice a1 x.l.args.length c1, .int .i64 x.r.f, .slice a2 x.r.args.length c2]) rfl rfl rfl (fun za zC zh zk => box_44 rfl (zh.ev rfl) (zk _ _ (newBlk _ _ _))) ?_
  rintro _ w1 ⟨g2, rfl, hg3, hB4, hb5, hz6⟩
  have hl7 : w.heap.size ≤ g2 := by omega
  refine WL.step (post := NewBlk w1 44 #[.bool false, .int .i64 0, .slice none 0 0, .int .i64 0, .slice none 0 0]) rfl rfl rfl (fun za zC zh zk => alloc_44 rfl (zk _ _ (newBlk _ _ _))) ?_
  rintro _ w8 ⟨g9, rfl, hg10, hB11, hb12, hz13⟩
  have hl14 : g2 < g9 := by have z1 := hB4.lt; omega
  have hl15 : w.heap.size ≤ g9 := by have z2 := (hb5).size; omega
  refine WL.nil (WE.sub (K' := [(0, .slice sa s.length sc), (1, .agg #[.bool x.neg, .int .i64 x.l.f, .slice a1 x.l.args.length c1, .int .i64 x.r.f, .slice a2 x.r.args.length c2]), (3, .pointer (some ⟨g2, 0, none⟩)), (4, .pointer (some ⟨g9, 0, none⟩))]) ⟨rfl, rfl, rfl, rfl, trivial⟩ ?_)
  refine WE.next ?_
  refine WC.seq ?_
  have hB16 := hB4.below hb12
  have hb17 : Below w.heap.size w w8 := (bstep hb5 hb12)
  have hSlt : ∀ b, (fun b => b = g9) b → b < w8.heap.size := fun b e => e ▸ hB11.lt
  have hgl : g9 < w8.heap.size := hB11.lt
  refine WC.tail1 (S := ((fun b => b = g9))) [(true, .val (.pointer (some ⟨g2, 0, none⟩))), (true, .val (.bool x.neg)), (true, .val (.slice sa s.length sc)), (true, .val (.pointer (some ⟨g2, 1, none⟩))), (true, .val (.agg #[.int .i64 x.l.f, .slice a1 x.l.args.length c1])), (true, .mem (fun v w' => NewT w8 w' ((x.app s).l) v) (fun v w w' hc h => InT.chg h hc (fun b hb hs => by have z := hSlt b hs; omega))), (true, .val (.slice sa s.length sc)), (true, .val (.pointer (some ⟨g2, 3, none⟩))), (true, .val (.agg #[.int .i64 x.r.f, .slice a2 x.r.args.length c2])), (true, .mem (fun v w' => NewT w8 w' ((x.app s).r) v) (fun v w w' hc h => InT.chg h hc (fun b hb hs => by have z := hSlt b hs; omega))), (true, .mem (fun v w' => NewL w8 w' ((x.app s)) v) (fun v w w' hc h => NewL.chg h hc (fun b hb hs => by have z := hSlt b hs; omega))), (true, .val undef)] [(0, .slice sa s.length sc), (1, .agg #[.bool x.neg, .int .i64 x.l.f, .slice a1 x.l.args.length c1, .int .i64 x.r.f, .slice a2 x.r.args.length c2]), (3, .pointer (some ⟨g2, 0, none⟩)), (4, .pointer (some ⟨g9, 0, none⟩))] 11 (fun wz => LiBox w8 wz g9 44 ((x.app s))) (fun w w' hb h => h.below hb) ⟨rfl, rfl, rfl, rfl, trivial⟩ (by kernel_rfl) (by kernel_rfl) (by kernel_rfl) (by kernel_rfl) ?_ ?_
  · refine ⟨.inl ⟨rfl, true, .none rfl, (fun gg b h => by cases h), fun h w => optUndef h, fun zβ za zw zc => ?_⟩, ?_⟩
    · exact fld_44_0 rfl (zc.kn.ev rfl) ⟨_, rfl, Below.refl _ _, optDef zβ rfl⟩
    refine ⟨.inl ⟨rfl, true, .none rfl, (fun gg b h => by cases h), fun h w => optUndef h, fun zβ za zw zc => ?_⟩, ?_⟩
    · exact ld_4 rfl ((show za.eval (.tmp 5) = za.tmps.getD 5 undef from rfl).trans (optSVal (zc.dep 0 5 (by kernel_rfl) (by decide)) rfl rfl)) (bkeeps (zc.early (by kernel_rfl)) _ _ ((hB16.cell 0).trans rfl)) ⟨_, rfl, Below.refl _ _, optDef zβ rfl⟩
    refine ⟨.inl ⟨rfl, true, .none rfl, (fun gg b h => by cases h), fun h w => optUndef h, fun zβ za zw zc => ?_⟩, ?_⟩
    · exact wp_move rfl (zc.kn.ev rfl) ⟨_, rfl, Below.refl _ _, optDef zβ rfl⟩
    refine ⟨.inl ⟨rfl, true, .none rfl, (fun gg b h => by cases h), fun h w => optUndef h, fun zβ za zw zc => ?_⟩, ?_⟩
    · exact fld_44_1 rfl (zc.kn.ev rfl) ⟨_, rfl, Below.refl _ _, optDef zβ rfl⟩
    refine ⟨.inl ⟨rfl, true, .none rfl, (fun gg b h => by cases h), fun h w => optUndef h, fun zβ za zw zc => ?_⟩, ?_⟩
    · exact ld_32 rfl ((show za.eval (.tmp 8) = za.tmps.getD 8 undef from rfl).trans (optSVal (zc.dep 3 8 (by kernel_rfl) (by decide)) rfl rfl)) (bkeeps (zc.early (by kernel_rfl)) _ _ ((hB16.cell 1).trans rfl)) (bkeeps (zc.early (by kernel_rfl)) _ _ ((hB16.cell 2).trans rfl)) ⟨_, rfl, Below.refl _ _, optDef zβ rfl⟩
    refine ⟨.inl ⟨rfl, true, .none rfl, (fun gg b h => by cases h), fun h w => optUndef h, fun zβ za zw zc => ?_⟩, ?_⟩
    · exact wp_call (by kernel_rfl) rfl (hv2 ((show za.eval (.tmp 7) = za.tmps.getD 7 undef from rfl).trans (optSVal (zc.dep 2 7 (by kernel_rfl) (by decide)) rfl rfl)) ((show za.eval (.tmp 9) = za.tmps.getD 9 undef from rfl).trans (optSVal (zc.dep 4 9 (by kernel_rfl) (by decide)) rfl rfl))) (rapply_any s sa sc x.l _ _ hz1 (IsT.below (bstep hb17 (zc.early (by kernel_rfl))) hl) (hs.below (bstep hb17 (zc.early (by kernel_rfl))))) (fun v w' h => ⟨v, rfl, h.2, optDef zβ (InT.mono (fun b hb _ => Nat.le_trans (zc.early (by kernel_rfl)).size hb) h.1)⟩)
    refine ⟨.inl ⟨rfl, true, .none rfl, (fun gg b h => by cases h), fun h w => optUndef h, fun zβ za zw zc => ?_⟩, ?_⟩
    · exact wp_move rfl (zc.kn.ev rfl) ⟨_, rfl, Below.refl _ _, optDef zβ rfl⟩
    refine ⟨.inl ⟨rfl, true, .none rfl, (fun gg b h => by cases h), fun h w => optUndef h, fun zβ za zw zc => ?_⟩, ?_⟩
    · exact fld_44_2 rfl (zc.kn.ev rfl) ⟨_, rfl, Below.refl _ _, optDef zβ rfl⟩
    refine ⟨.inl ⟨rfl, true, .none rfl, (fun gg b h => by cases h), fun h w => optUndef h, fun zβ za zw zc => ?_⟩, ?_⟩
    · exact ld_32 rfl ((show za.eval (.tmp 12) = za.tmps.getD 12 undef from rfl).trans (optSVal (zc.dep 7 12 (by kernel_rfl) (by decide)) rfl rfl)) (bkeeps (zc.early (by kernel_rfl)) _ _ ((hB16.cell 3).trans rfl)) (bkeeps (zc.early (by kernel_rfl)) _ _ ((hB16.cell 4).trans rfl)) ⟨_, rfl, Below.refl _ _, optDef zβ rfl⟩
    refine ⟨.inl ⟨rfl, true, .none rfl, (fun gg b h => by cases h), fun h w => optUndef h, fun zβ za zw zc => ?_⟩, ?_⟩
    · exact wp_call (by kernel_rfl) rfl (hv2 ((show za.eval (.tmp 11) = za.tmps.getD 11 undef from rfl).trans (optSVal (zc.dep 6 11 (by kernel_rfl) (by decide)) rfl rfl)) ((show za.eval (.tmp 13) = za.tmps.getD 13 undef from rfl).trans (optSVal (zc.dep 8 13 (by kernel_rfl) (by decide)) rfl rfl))) (rapply_any s sa sc x.r _ _ hz2 (IsT.below (bstep hb17 (zc.early (by kernel_rfl))) hr) (hs.below (bstep hb17 (zc.early (by kernel_rfl))))) (fun v w' h => ⟨v, rfl, h.2, optDef zβ (InT.mono (fun b hb _ => Nat.le_trans (zc.early (by kernel_rfl)).size hb) h.1)⟩)
    refine ⟨.inl ⟨rfl, true, .none rfl, (fun gg b h => by cases h), fun h w => optUndef h, fun zβ za zw zc => ?_⟩, ?_⟩
    · have z1 := (optSMem (zc.dep 5 10 (by kernel_rfl) (by decide)) rfl rfl)
      obtain ⟨_, a1, c1, e1, _⟩ := z1.form
      rw [e1] at z1
      have z2 := (optSMem (zc.dep 9 14 (by kernel_rfl) (by decide)) rfl rfl)
      obtain ⟨_, a2, c2, e2, _⟩ := z2.form
      rw [e2] at z2
      exact build_44_0_1_2 rfl ((show za.eval (.tmp 6) = za.tmps.getD 6 undef from rfl).trans (optSVal (zc.dep 1 6 (by kernel_rfl) (by decide)) rfl rfl)) ((show za.eval (.tmp 10) = za.tmps.getD 10 undef from rfl).trans e1) ((show za.eval (.tmp 14) = za.tmps.getD 14 undef from rfl).trans e2) ⟨_, rfl, Below.refl _ _, optDef zβ (newL_mk (x := (x.app s)) z1 z2)⟩
    refine ⟨.inr ⟨rfl, rfl, fun za zw zc => ?_⟩, ?_⟩
    · have zv := (optSMem (zc.dep 10 15 (by kernel_rfl) (by decide)) rfl rfl)
      obtain ⟨a1, a2, c1, c2, e1⟩ := zv.parts
      rw [e1] at zv
      exact st_44 rfl (zc.kn.ev rfl) ((show za.eval (.tmp 15) = za.tmps.getD 15 undef from rfl).trans e1) rfl rfl rfl rfl rfl (hB11.below zc.below) (by decide) (fun v => ⟨v, rfl, ⟨a1, a2, c1, c2, ((((hB11.below zc.below).set_ 0 _).set_ 1 _).set_ 2 _ |>.set_ 3 _).set_ 4 _, zv.chg (S := fun b => b = g9) (.ofUpd (((((Upd.at_ _ _ _ _).trans (Upd.at_ _ _ _ _)).trans (Upd.at_ _ _ _ _)).trans (Upd.at_ _ _ _ _)).trans (Upd.at_ _ _ _ _)) rfl) (fun b hb e => by (try dsimp only at *); omega)⟩, .ofUpd (((((Upd.at_ _ _ _ _).trans (Upd.at_ _ _ _ _)).trans (Upd.at_ _ _ _ _)).trans (Upd.at_ _ _ _ _)).trans (Upd.at_ _ _ _ _)) rfl⟩)
    exact trivial
  · intro za w18 zh hG19 hc20 zu
    have hb21 := chg_below hb17 hc20 (fun b hb => (by (try dsimp only at *); omega))
    have hB22 := chg_blk hB16 hc20 (by (try dsimp only at *); omega)
    obtain ⟨a23, a24, c25, c26, hB27, hn28⟩ := hG19
    clear zu
    refine (show WE _ [(0, .slice sa s.length sc), (1, .agg #[.bool x.neg, .int .i64 x.l.f, .slice a1 x.l.args.length c1, .int .i64 x.r.f, .slice a2 x.r.args.length c2]), (3, .pointer (some ⟨g2, 0, none⟩)), (4, .pointer (some ⟨g9, 0, none⟩))] w18 _ .normal from ?_) za (zh.sub ⟨rfl, rfl, rfl, rfl, trivial⟩)
    refine WE.next ?_
    refine WC.ret ?_
    refine WE.retAny (v := .agg #[.bool ((x.app s).neg), .int .i64 ((x.app s).l.f), .slice a23 ((x.app s).l.args.length) c25, .int .i64 ((x.app s).r.f), .slice a24 ((x.app s).r.args.length) c26]) (fun za zh => ?_) ?_
    · have z0 : za.tmps[4]?.getD undef = .pointer (some ⟨g9, 0, none⟩) := by rw [← Array.getD_eq_getD_getElem?]; exact zh.knows 4 _ rfl
      have y0 : w18.cell? ⟨g9, 0, none⟩ = some (.bool ((x.app s).neg)) := ((hB27.cell 0).trans rfl)
      have y1 : w18.cell? ⟨g9, 1, none⟩ = some (.int .i64 ((x.app s).l.f)) := ((hB27.cell 1).trans rfl)
      have y2 : w18.cell? ⟨g9, 2, none⟩ = some (.slice a23 ((x.app s).l.args.length) c25) := ((hB27.cell 2).trans rfl)
      have y3 : w18.cell? ⟨g9, 3, none⟩ = some (.int .i64 ((x.app s).r.f)) := ((hB27.cell 3).trans rfl)
      have y4 : w18.cell? ⟨g9, 4, none⟩ = some (.slice a24 ((x.app s).r.args.length) c26) := ((hB27.cell 4).trans rfl)
      simp [results, Try.results30, z0, y0, y1, y2, y3, y4, go_sem]
    · have hgz := (hb17).size
      exact ⟨_, rfl, (hn28).older (by omega), hb21⟩

set_option maxRecDepth 100000 in
theorem clause_any (s : List Bd) (l : List Li) (w : World) (sa a : Option Addr) (sc c : Nat) (hs : IsSub w s sa sc) (h : IsCl w l a c) (hlen : l.length ≤ 1048576) : Calls Try.prog 31 #[.slice sa s.length sc, .slice a l.length c] w (Ret fun v' w' => (∃ p c', v' = .slice p (l.map (Li.app s)).length c' ∧ NewC w w' (l.map (Li.app s)) p c') ∧ Below w.heap.size w w') := by
  have hcap := h.cap
  refine Calls.walk (l := [.slice sa s.length sc, .slice a l.length c]) Try.func31 rfl (by kernel_rfl) ?_
  refine WC.sub (K' := [(0, .slice sa s.length sc), (1, .slice a l.length c)]) ⟨rfl, rfl, trivial⟩ ?_
  refine WC.seq ?_
  refine WC.region ?_
  refine WL.val (.slice none 0 0) rfl rfl rfl (fun za zC zh zk => wp_assign rfl (zh.ev rfl) zk) ?_
  refine WL.nil (WE.sub (K' := [(0, .slice sa s.length sc), (1, .slice a l.length c), (4, .slice none 0 0)]) ⟨rfl, rfl, rfl, trivial⟩ ?_)
  refine WE.next ?_
  refine WC.seq ?_
  refine WC.region ?_
  refine WL.val (.slice none 0 0) rfl rfl rfl (fun za zC zh zk => wp_assign rfl (zh.ev rfl) zk) ?_
  refine WL.nil (WE.sub (K' := [(0, .slice sa s.length sc), (1, .slice a l.length c), (4, .slice none 0 0), (5, .slice none 0 0)]) ⟨rfl, rfl, rfl, rfl, trivial⟩ ?_)
  refine WE.next ?_
  refine WC.seq ?_
  refine WC.seq ?_
  refine WC.region ?_
  refine WL.val (.slice a l.length c) rfl rfl rfl (fun za zC zh zk => wp_move rfl (zh.ev rfl) zk) ?_
  refine WL.val (.int .i64 (((l.length : Nat) : Int))) rfl rfl rfl (fun za zC zh zk => len_42 rfl (zh.ev rfl) zk) ?_
  refine WL.val (.int .i64 0) rfl rfl rfl (fun za zC zh zk => wp_move rfl (zh.ev rfl) zk) ?_
  refine WL.nil (WE.sub (K' := [(0, .slice sa s.length sc), (1, .slice a l.length c), (4, .slice none 0 0), (5, .slice none 0 0), (8, .slice a l.length c), (9, .int .i64 (((l.length : Nat) : Int))), (10, .int .i64 0)]) ⟨rfl, rfl, rfl, rfl, rfl, rfl, rfl, trivial⟩ ?_)
  refine WE.next ?_
  refine WC.block ?_
  have hR1 : RowE eltL w w.heap.size 44 none 0 0 [] := RowE.nil
  refine WC.loop (X := Option Addr × Nat × Nat) (fun x => l.length - x.2.2) (fun x => [(0, .slice sa s.length sc), (1, .slice a l.length c), (4, .slice none 0 0), (5, .slice x.1 x.2.2 x.2.1), (8, .slice a l.length c), (9, .int .i64 (((l.length : Nat) : Int))), (10, .int .i64 (((x.2.2 : Nat) : Int)))]) (fun x w2 => x.2.2 ≤ l.length ∧ w.heap.size ≤ (w2).heap.size ∧ Below w.heap.size w w2 ∧ RowE eltL (w2) w.heap.size 44 x.1 x.2.1 x.2.2 (((l.take x.2.2).map (Li.app s)))) ((none, 0, 0)) ⟨rfl, rfl, rfl, rfl, rfl, rfl, rfl, trivial⟩ ?_ ?_
  · exact ⟨Nat.zero_le _, Nat.le_refl _, (Below.refl _ _), (by simpa using hR1)⟩
  · rintro x w2 ⟨hk, hBw, hb3, ho4⟩
    refine WC.seq ?_
    refine WC.region ?_
    refine WL.val (.bool ((decide ((((x.2.2 : Nat) : Int) : Int) < (((l.length : Nat) : Int) : Int))))) rfl rfl rfl (fun za zC zh zk => lss_3 rfl (zh.ev rfl) (zh.ev rfl) zk) ?_
    refine WL.nil (WE.sub (K' := [(0, .slice sa s.length sc), (1, .slice a l.length c), (4, .slice none 0 0), (5, .slice x.1 x.2.2 x.2.1), (8, .slice a l.length c), (9, .int .i64 (((l.length : Nat) : Int))), (10, .int .i64 (((x.2.2 : Nat) : Int))), (11, .bool ((decide ((((x.2.2 : Nat) : Int) : Int) < (((l.length : Nat) : Int) : Int)))))]) ⟨rfl, rfl, rfl, rfl, rfl, rfl, rfl, rfl, trivial⟩ ?_)
    refine WE.next ?_
    refine WC.seq ?_
    refine WC.cond rfl (fun h5 => ?_) (fun h5 => ?_)
    · have h5 : (((x.2.2 : Nat) : Int) : Int) < (((l.length : Nat) : Int) : Int) := by simpa using h5
      refine WC.skip ?_
      refine WE.next ?_
      refine WC.seq ?_
      refine WC.block ?_
      refine WC.seq ?_
      refine WC.region ?_
      obtain ⟨b6, o7, A8, C9, A10, C11, ha12, hc13⟩ := InRow.openL h.rows
      refine WL.val (.pointer (some ⟨b6, o7 + x.2.2 * 5, none⟩)) rfl rfl rfl (fun za zC zh zk => ix_42 (k := x.2.2) rfl (zh.ev rfl) (ha12 x.2.2 (by first | omega | (simp; omega))) (zh.ev rfl) (by first | omega | (simp; omega)) zk) ?_
      refine WL.val (.agg #[.bool ((lget l x.2.2).neg), .int .i64 ((lget l x.2.2).l.f), .slice ((A8 x.2.2)) ((lget l x.2.2).l.args.length) ((C9 x.2.2)), .int .i64 ((lget l x.2.2).r.f), .slice ((A10 x.2.2)) ((lget l x.2.2).r.args.length) ((C11 x.2.2))]) rfl rfl rfl (fun za zC zh zk => ld_44 rfl (zh.ev rfl) (bkeeps hb3 _ _ (hc13 x.2.2 (by first | omega | (simp; omega))).1) (bkeeps hb3 _ _ (hc13 x.2.2 (by first | omega | (simp; omega))).2.1) (bkeeps hb3 _ _ (hc13 x.2.2 (by first | omega | (simp; omega))).2.2.1) (bkeeps hb3 _ _ (hc13 x.2.2 (by first | omega | (simp; omega))).2.2.2.1) (bkeeps hb3 _ _ (hc13 x.2.2 (by first | omega | (simp; omega))).2.2.2.2.1) zk) ?_
      refine WL.step (post := NewBlk w2 44 #[.bool false, .int .i64 0, .slice none 0 0, .int .i64 0, .slice none 0 0]) rfl rfl rfl (fun za zC zh zk => alloc_44 rfl (zk _ _ (newBlk _ _ _))) ?_
      rintro _ w14 ⟨g15, rfl, hg16, hB17, hb18, hz19⟩
      have hl20 : w.heap.size ≤ g15 := by have z2 := (hb3).size; omega
      have hl21 : w2.heap.size ≤ g15 := by omega
      refine WL.step (post := fun _ w' => Upd g15 w14 w' ∧ Blk w' g15 44 #[.bool ((lget l x.2.2).neg), .int .i64 ((lget l x.2.2).l.f), .slice ((A8 x.2.2)) ((lget l x.2.2).l.args.length) ((C9 x.2.2)), .int .i64 ((lget l x.2.2).r.f), .slice ((A10 x.2.2)) ((lget l x.2.2).r.args.length) ((C11 x.2.2))]) rfl rfl rfl (fun za zC zh zk => st_44 rfl (zh.ev rfl) (zh.ev rfl) rfl rfl rfl rfl rfl hB17 (by first | decide | simp) (fun v => zk v _ ⟨((((Upd.at_ _ _ _ _).trans (Upd.at_ _ _ _ _)).trans (Upd.at_ _ _ _ _)).trans (Upd.at_ _ _ _ _)).trans (Upd.at_ _ _ _ _), ((((hB17.set_ 0 _).set_ 1 _).set_ 2 _).set_ 3 _).set_ 4 _⟩)) ?_
      rintro v25 w22 ⟨hu23, hB24⟩
      have hb26 : Below w.heap.size w w14 := (bstep hb3 hb18)
      have hb27 := upd_below hb26 hu23 (by omega)
      have hb28 := upd_below hb18 hu23 (by omega)
      refine WL.nil (WE.sub (K' := [(0, .slice sa s.length sc), (1, .slice a l.length c), (4, .slice none 0 0), (5, .slice x.1 x.2.2 x.2.1), (7, .pointer (some ⟨g15, 0, none⟩)), (8, .slice a l.length c), (9, .int .i64 (((l.length : Nat) : Int))), (10, .int .i64 (((x.2.2 : Nat) : Int))), (11, .bool ((decide ((((x.2.2 : Nat) : Int) : Int) < (((l.length : Nat) : Int) : Int)))))]) ⟨rfl, rfl, rfl, rfl, rfl, rfl, rfl, rfl, rfl, trivial⟩ ?_)
      refine WE.next ?_
      have ho29 := ho4.below hb28
      have hSlt : ∀ b, (fun b => (Value.slice x.1 x.2.2 x.2.1).ownBlock = some b) b → b < w22.heap.size := fun b h => (ho29.lt b h).2
      have hSlo : ∀ b, (fun b => (Value.slice x.1 x.2.2 x.2.1).ownBlock = some b) b → w.heap.size ≤ b ∧ b < w2.heap.size := fun b h => ho4.lt b h
      have hBW : w.heap.size ≤ w22.heap.size := by have z1 := hb27.size; omega
      have hlL : x.2.2 = (((l.take x.2.2).map (Li.app s))).length := ho29.len
      refine WC.tail3 (S := ((fun b => (Value.slice x.1 x.2.2 x.2.1).ownBlock = some b))) [(true, .val (.slice x.1 x.2.2 x.2.1)), (true, .val (.slice sa s.length sc)), (true, .val (.agg #[.bool ((lget l x.2.2).neg), .int .i64 ((lget l x.2.2).l.f), .slice ((A8 x.2.2)) ((lget l x.2.2).l.args.length) ((C9 x.2.2)), .int .i64 ((lget l x.2.2).r.f), .slice ((A10 x.2.2)) ((lget l x.2.2).r.args.length) ((C11 x.2.2))])), (true, .mem (fun v w' => NewL w22 w' (((lget l x.2.2).app s)) v) (fun v w w' hc h => NewL.chg h hc (fun b hb hs => by have z := hSlt b hs; omega))), (true, .mem (fun v w' => OneRow eltL w22 44 (((lget l x.2.2).app s)) v w') (fun v w w' hc h => h.chg hc hSlt)), (true, .val undef), (true, .val undef)] [(0, .slice sa s.length sc), (1, .slice a l.length c), (4, .slice none 0 0), (7, .pointer (some ⟨g15, 0, none⟩)), (8, .slice a l.length c), (9, .int .i64 (((l.length : Nat) : Int))), (10, .int .i64 (((x.2.2 : Nat) : Int))), (11, .bool ((decide ((((x.2.2 : Nat) : Int) : Int) < (((l.length : Nat) : Int) : Int)))))] 5 6 ((x.2.2 + 1)) 19 5 (fun ra rc wz => RowE eltL wz w.heap.size 44 ra rc (x.2.2 + 1) (((l.take x.2.2).map (Li.app s) ++ [((lget l x.2.2).app s)]))) (by decide) (fun ra rc w w' hb h => h.below hb) ⟨rfl, rfl, rfl, rfl, rfl, rfl, rfl, rfl, trivial⟩ (by kernel_rfl) (by kernel_rfl) (by kernel_rfl) (by kernel_rfl) (by kernel_rfl) (by kernel_rfl) ?_ ?_
      · refine ⟨.inl ⟨rfl, true, .none rfl, (fun gg b h => by cases h), fun h w => optUndef h, fun zβ za zw zc => ?_⟩, ?_⟩
        · exact wp_move rfl ((show za.eval (.tmp 5) = za.tmps.getD 5 undef from rfl).trans (zc.old 5 _ rfl (by kernel_rfl))) ⟨_, rfl, Below.refl _ _, optDef zβ rfl⟩
        refine ⟨.inl ⟨rfl, true, .none rfl, (fun gg b h => by cases h), fun h w => optUndef h, fun zβ za zw zc => ?_⟩, ?_⟩
        · exact wp_move rfl (zc.kn.ev rfl) ⟨_, rfl, Below.refl _ _, optDef zβ rfl⟩
        refine ⟨.inl ⟨rfl, true, .none rfl, (fun gg b h => by cases h), fun h w => optUndef h, fun zβ za zw zc => ?_⟩, ?_⟩
        · exact ld_44 rfl (zc.kn.ev rfl) (bkeeps (zc.early (by kernel_rfl)) _ _ ((hB24.cell 0).trans rfl)) (bkeeps (zc.early (by kernel_rfl)) _ _ ((hB24.cell 1).trans rfl)) (bkeeps (zc.early (by kernel_rfl)) _ _ ((hB24.cell 2).trans rfl)) (bkeeps (zc.early (by kernel_rfl)) _ _ ((hB24.cell 3).trans rfl)) (bkeeps (zc.early (by kernel_rfl)) _ _ ((hB24.cell 4).trans rfl)) ⟨_, rfl, Below.refl _ _, optDef zβ rfl⟩
        refine ⟨.inl ⟨rfl, true, .none rfl, (fun gg b h => by cases h), fun h w => optUndef h, fun zβ za zw zc => ?_⟩, ?_⟩
        · exact wp_call (by kernel_rfl) rfl (hv2 ((show za.eval (.tmp 15) = za.tmps.getD 15 undef from rfl).trans (optSVal (zc.dep 1 15 (by kernel_rfl) (by decide)) rfl rfl)) ((show za.eval (.tmp 16) = za.tmps.getD 16 undef from rfl).trans (optSVal (zc.dep 2 16 (by kernel_rfl) (by decide)) rfl rfl))) (lit_any s (lget l x.2.2) _ _ _ _ (h.pl (by omega)) (h.pr (by omega)) (isLi_mk (IsT.below (bstep hb27 (zc.early (by kernel_rfl))) (InT.isT (hc13 x.2.2 (by first | omega | (simp; omega))).2.2.2.2.2.1)) (IsT.below (bstep hb27 (zc.early (by kernel_rfl))) (InT.isT (hc13 x.2.2 (by first | omega | (simp; omega))).2.2.2.2.2.2))) (hs.below (bstep hb27 (zc.early (by kernel_rfl))))) (fun v w' h => ⟨v, rfl, h.2, optDef zβ (NewL.older h.1 (zc.early (by kernel_rfl)).size)⟩)
        refine ⟨.inl ⟨rfl, true, .none rfl, (fun gg b h => by cases h), fun h w => optUndef h, fun zβ za zw zc => ?_⟩, ?_⟩
        · have zv := (optSMem (zc.dep 3 17 (by kernel_rfl) (by decide)) rfl rfl)
          obtain ⟨a1, a2, c1, c2, e1⟩ := zv.parts
          rw [e1] at zv
          exact row_42_1 rfl ((show za.eval (.tmp 17) = za.tmps.getD 17 undef from rfl).trans e1) ⟨_, rfl, balloc _ _, optDef zβ ⟨_, _, rfl, zc.chg.size, Blk.new' rfl, eltL.below' (balloc _ _) zv.elt⟩⟩
        refine ⟨.inr (.inl ⟨rfl, rfl, fun za zw zc => ?_⟩), ?_⟩
        · obtain ⟨g1, cs, e1, hg1, hB1, hin⟩ := (optSMem (zc.dep 4 18 (by kernel_rfl) (by decide)) rfl rfl)
          exact wp_appE (E := eltL) (size := 5) (bytes := 72) (z := .agg #[.bool false, .int .i64 0, .slice none 0 0, .int .i64 0, .slice none 0 0]) rfl Try.underlying42 (by kernel_rfl) rfl (by decide) rfl ((show za.eval (.tmp 14) = za.tmps.getD 14 undef from rfl).trans (optSVal (zc.dep 0 14 (by kernel_rfl) (by decide)) rfl rfl)) ((show za.eval (.tmp 18) = za.tmps.getD 18 undef from rfl).trans e1) (ho29.below zc.below) hB1 (eltL.mono (fun b hb _ => ⟨by omega, fun e => by have z := (ho29.lt b e).2; omega⟩) hin) (by omega) (by omega) (by have z := zc.below.size; omega) (fun ra rc w' h1 h2 _ => ⟨ra, rc, rfl, h1, h2⟩)
        refine ⟨.inr (.inr ⟨rfl, rfl, 19, by kernel_rfl, rfl⟩), ?_⟩
        exact trivial
      · intro za w30 ra33 rc34 zh zv zv2 hG31 hc32 zu
        have zh := zh.cons (d := 5) zv2
        have hb35 := chg_below hb27 hc32 (fun b hb => (fun h => by have h := hSlo _ h; (try dsimp only at *); omega))
        have hB36 := chg_blk hB24 hc32 (fun h => by have h := hSlo _ h; (try dsimp only at *); omega)
        clear zu
        refine (show WE _ [(0, .slice sa s.length sc), (1, .slice a l.length c), (4, .slice none 0 0), (5, .slice ra33 ((x.2.2 + 1)) rc34), (7, .pointer (some ⟨g15, 0, none⟩)), (8, .slice a l.length c), (9, .int .i64 (((l.length : Nat) : Int))), (10, .int .i64 (((x.2.2 : Nat) : Int))), (11, .bool ((decide ((((x.2.2 : Nat) : Int) : Int) < (((l.length : Nat) : Int) : Int)))))] w30 _ .normal from ?_) za (zh.sub ⟨rfl, rfl, rfl, rfl, rfl, rfl, rfl, rfl, rfl, trivial⟩)
        refine WE.blockNormal ?_
        refine WE.next ?_
        refine WC.region ?_
        refine WL.val (.int .i64 ((((x.2.2 + 1) : Nat) : Int))) rfl rfl rfl (fun za zC zh zk => addb_3 rfl (zh.ev rfl) (zh.ev rfl) (wrap_eq (by omega) (by omega) (by omega)) zk) ?_
        refine WL.val (.int .i64 ((((x.2.2 + 1) : Nat) : Int))) rfl rfl rfl (fun za zC zh zk => wp_move rfl (zh.ev rfl) zk) ?_
        refine WL.nil (WE.sub (K' := [(0, .slice sa s.length sc), (1, .slice a l.length c), (4, .slice none 0 0), (5, .slice ra33 ((x.2.2 + 1)) rc34), (7, .pointer (some ⟨g15, 0, none⟩)), (8, .slice a l.length c), (9, .int .i64 (((l.length : Nat) : Int))), (10, .int .i64 ((((x.2.2 + 1) : Nat) : Int))), (11, .bool ((decide ((((x.2.2 : Nat) : Int) : Int) < (((l.length : Nat) : Int) : Int)))))]) ⟨rfl, rfl, rfl, rfl, rfl, rfl, rfl, rfl, rfl, trivial⟩ ?_)
        refine WE.round ((ra33, rc34, x.2.2 + 1)) ⟨rfl, rfl, rfl, rfl, rfl, rfl, rfl, trivial⟩ ?_ ?_
        · exact ⟨by (try dsimp only at *); omega, hb35.size, hb35, (by rw [← take_mapL (by (try dsimp only at *); omega)]; exact hG31)⟩
        · dsimp only; omega
    · have h5 : ¬ ((((x.2.2 : Nat) : Int) : Int) < (((l.length : Nat) : Int) : Int)) := by simpa using h5
      refine WC.exit ?_
      refine WE.thenExit ?_
      refine WE.thenExit ?_
      refine WE.blockIs rfl ?_
      refine WE.next ?_
      refine WC.seq ?_
      refine WC.region ?_
      refine WL.val (.slice x.1 x.2.2 x.2.1) rfl rfl rfl (fun za zC zh zk => wp_move rfl (zh.ev rfl) zk) ?_
      refine WL.val (.slice x.1 x.2.2 x.2.1) rfl rfl rfl (fun za zC zh zk => wp_assign rfl (zh.ev rfl) zk) ?_
      refine WL.nil (WE.sub (K' := [(0, .slice sa s.length sc), (1, .slice a l.length c), (4, .slice x.1 x.2.2 x.2.1), (5, .slice x.1 x.2.2 x.2.1), (8, .slice a l.length c), (9, .int .i64 (((l.length : Nat) : Int))), (10, .int .i64 (((x.2.2 : Nat) : Int))), (11, .bool ((decide ((((x.2.2 : Nat) : Int) : Int) < (((l.length : Nat) : Int) : Int)))))]) ⟨rfl, rfl, rfl, rfl, rfl, rfl, rfl, rfl, trivial⟩ ?_)
      refine WE.next ?_
      refine WC.ret ?_
      refine WE.ret1 rfl rfl ?_
      have z := ho4
      rw [List.take_of_length_le (by omega)] at z
      obtain ⟨e, z⟩ := newC_row (w0 := w) z (by omega)
      exact ⟨_, rfl, ⟨_, _, by rw [← e], z⟩, hb3⟩

set_option maxRecDepth 100000 in
theorem rclause_any (s : List Bd) (l : List Li) (w : World) (sa a : Option Addr) (sc c : Nat) (hs : IsSub w s sa sc) (h : IsCl w l a c) (hlen : l.length ≤ 1048576) : Calls Try.prog 32 #[.slice sa s.length sc, .slice a l.length c] w (Ret fun v' w' => (∃ p c', v' = .slice p (l.map (Li.app s)).length c' ∧ NewC w w' (l.map (Li.app s)) p c') ∧ Below w.heap.size w w') := by
  have hcap := h.cap
  refine Calls.walk (l := [.slice sa s.length sc, .slice a l.length c]) Try.func32 rfl (by kernel_rfl) ?_
  refine WC.sub (K' := [(0, .slice sa s.length sc), (1, .slice a l.length c)]) ⟨rfl, rfl, trivial⟩ ?_
  refine WC.seq ?_
  refine WC.region ?_
  refine WL.val (.slice none 0 0) rfl rfl rfl (fun za zC zh zk => wp_assign rfl (zh.ev rfl) zk) ?_
  refine WL.nil (WE.sub (K' := [(0, .slice sa s.length sc), (1, .slice a l.length c), (4, .slice none 0 0)]) ⟨rfl, rfl, rfl, trivial⟩ ?_)
  refine WE.next ?_
  refine WC.seq ?_
  refine WC.region ?_
  refine WL.val (.slice none 0 0) rfl rfl rfl (fun za zC zh zk => wp_assign rfl (zh.ev rfl) zk) ?_
  refine WL.nil (WE.sub (K' := [(0, .slice sa s.length sc), (1, .slice a l.length c), (4, .slice none 0 0), (5, .slice none 0 0)]) ⟨rfl, rfl, rfl, rfl, trivial⟩ ?_)
  refine WE.next ?_
  refine WC.seq ?_
  refine WC.seq ?_
  refine WC.region ?_
  refine WL.val (.int .i64 0) rfl rfl rfl (fun za zC zh zk => wp_assign rfl (zh.ev rfl) zk) ?_
  refine WL.nil (WE.sub (K' := [(0, .slice sa s.length sc), (1, .slice a l.length c), (4, .slice none 0 0), (5, .slice none 0 0), (6, .int .i64 0)]) ⟨rfl, rfl, rfl, rfl, rfl, trivial⟩ ?_)
  refine WE.next ?_
  refine WC.block ?_
  have hR1 : RowE eltL w w.heap.size 44 none 0 0 [] := RowE.nil
  refine WC.loop (X := Option Addr × Nat × Nat) (fun x => l.length - x.2.2) (fun x => [(0, .slice sa s.length sc), (1, .slice a l.length c), (4, .slice none 0 0), (5, .slice x.1 x.2.2 x.2.1), (6, .int .i64 (((x.2.2 : Nat) : Int)))]) (fun x w2 => x.2.2 ≤ l.length ∧ w.heap.size ≤ (w2).heap.size ∧ Below w.heap.size w w2 ∧ RowE eltL (w2) w.heap.size 44 x.1 x.2.1 x.2.2 (((l.take x.2.2).map (Li.app s)))) ((none, 0, 0)) ⟨rfl, rfl, rfl, rfl, rfl, trivial⟩ ?_ ?_
  · exact ⟨Nat.zero_le _, Nat.le_refl _, (Below.refl _ _), (by simpa using hR1)⟩
  · rintro x w2 ⟨hk, hBw, hb3, ho4⟩
    refine WC.seq ?_
    refine WC.seq ?_
    refine WC.region ?_
    refine WL.val (.int .i64 (((x.2.2 : Nat) : Int))) rfl rfl rfl (fun za zC zh zk => wp_move rfl (zh.ev rfl) zk) ?_
    refine WL.val (.slice a l.length c) rfl rfl rfl (fun za zC zh zk => wp_move rfl (zh.ev rfl) zk) ?_
    refine WL.val (.int .i64 (((l.length : Nat) : Int))) rfl rfl rfl (fun za zC zh zk => len_42 rfl (zh.ev rfl) zk) ?_
    refine WL.val (.bool ((decide ((((x.2.2 : Nat) : Int) : Int) < (((l.length : Nat) : Int) : Int))))) rfl rfl rfl (fun za zC zh zk => lss_3 rfl (zh.ev rfl) (zh.ev rfl) zk) ?_
    refine WL.nil (WE.sub (K' := [(0, .slice sa s.length sc), (1, .slice a l.length c), (4, .slice none 0 0), (5, .slice x.1 x.2.2 x.2.1), (6, .int .i64 (((x.2.2 : Nat) : Int))), (10, .bool ((decide ((((x.2.2 : Nat) : Int) : Int) < (((l.length : Nat) : Int) : Int)))))]) ⟨rfl, rfl, rfl, rfl, rfl, rfl, trivial⟩ ?_)
    refine WE.next ?_
    refine WC.cond rfl (fun h5 => ?_) (fun h5 => ?_)
    · have h5 : (((x.2.2 : Nat) : Int) : Int) < (((l.length : Nat) : Int) : Int) := by simpa using h5
      refine WC.skip ?_
      refine WE.next ?_
      refine WC.seq ?_
      refine WC.block ?_
      obtain ⟨b6, o7, A8, C9, A10, C11, ha12, hc13⟩ := InRow.openL h.rows
      have hSlt : ∀ b, (fun b => (Value.slice x.1 x.2.2 x.2.1).ownBlock = some b) b → b < w2.heap.size := fun b h => (ho4.lt b h).2
      have hSlo : ∀ b, (fun b => (Value.slice x.1 x.2.2 x.2.1).ownBlock = some b) b → w.heap.size ≤ b ∧ b < w2.heap.size := fun b h => ho4.lt b h
      have hBW : w.heap.size ≤ w2.heap.size := by have z1 := hBw; omega
      have hlL : x.2.2 = (((l.take x.2.2).map (Li.app s))).length := ho4.len
      refine WC.tail3 (S := ((fun b => (Value.slice x.1 x.2.2 x.2.1).ownBlock = some b))) [(true, .val (.slice x.1 x.2.2 x.2.1)), (true, .val (.slice sa s.length sc)), (true, .val (.slice a l.length c)), (true, .val (.int .i64 (((x.2.2 : Nat) : Int)))), (true, .val (.pointer (some ⟨b6, o7 + x.2.2 * 5, none⟩))), (true, .val (.agg #[.bool ((lget l x.2.2).neg), .int .i64 ((lget l x.2.2).l.f), .slice ((A8 x.2.2)) ((lget l x.2.2).l.args.length) ((C9 x.2.2)), .int .i64 ((lget l x.2.2).r.f), .slice ((A10 x.2.2)) ((lget l x.2.2).r.args.length) ((C11 x.2.2))])), (true, .mem (fun v w' => NewL w2 w' (((lget l x.2.2).app s)) v) (fun v w w' hc h => NewL.chg h hc (fun b hb hs => by have z := hSlt b hs; omega))), (true, .mem (fun v w' => OneRow eltL w2 44 (((lget l x.2.2).app s)) v w') (fun v w w' hc h => h.chg hc hSlt)), (true, .val undef), (true, .val undef)] [(0, .slice sa s.length sc), (1, .slice a l.length c), (4, .slice none 0 0), (6, .int .i64 (((x.2.2 : Nat) : Int))), (10, .bool ((decide ((((x.2.2 : Nat) : Int) : Int) < (((l.length : Nat) : Int) : Int)))))] 8 9 ((x.2.2 + 1)) 21 5 (fun ra rc wz => RowE eltL wz w.heap.size 44 ra rc (x.2.2 + 1) (((l.take x.2.2).map (Li.app s) ++ [((lget l x.2.2).app s)]))) (by decide) (fun ra rc w w' hb h => h.below hb) ⟨rfl, rfl, rfl, rfl, rfl, trivial⟩ (by kernel_rfl) (by kernel_rfl) (by kernel_rfl) (by kernel_rfl) (by kernel_rfl) (by kernel_rfl) ?_ ?_
      · refine ⟨.inl ⟨rfl, true, .none rfl, (fun gg b h => by cases h), fun h w => optUndef h, fun zβ za zw zc => ?_⟩, ?_⟩
        · exact wp_move rfl ((show za.eval (.tmp 5) = za.tmps.getD 5 undef from rfl).trans (zc.old 5 _ rfl (by kernel_rfl))) ⟨_, rfl, Below.refl _ _, optDef zβ rfl⟩
        refine ⟨.inl ⟨rfl, true, .none rfl, (fun gg b h => by cases h), fun h w => optUndef h, fun zβ za zw zc => ?_⟩, ?_⟩
        · exact wp_move rfl (zc.kn.ev rfl) ⟨_, rfl, Below.refl _ _, optDef zβ rfl⟩
        refine ⟨.inl ⟨rfl, true, .none rfl, (fun gg b h => by cases h), fun h w => optUndef h, fun zβ za zw zc => ?_⟩, ?_⟩
        · exact wp_move rfl (zc.kn.ev rfl) ⟨_, rfl, Below.refl _ _, optDef zβ rfl⟩
        refine ⟨.inl ⟨rfl, true, .none rfl, (fun gg b h => by cases h), fun h w => optUndef h, fun zβ za zw zc => ?_⟩, ?_⟩
        · exact wp_move rfl (zc.kn.ev rfl) ⟨_, rfl, Below.refl _ _, optDef zβ rfl⟩
        refine ⟨.inl ⟨rfl, true, .none rfl, (fun gg b h => by cases h), fun h w => optUndef h, fun zβ za zw zc => ?_⟩, ?_⟩
        · exact ix_42 (k := x.2.2) rfl ((show za.eval (.tmp 15) = za.tmps.getD 15 undef from rfl).trans (optSVal (zc.dep 2 15 (by kernel_rfl) (by decide)) rfl rfl)) (ha12 x.2.2 (by first | omega | (simp; omega))) ((show za.eval (.tmp 16) = za.tmps.getD 16 undef from rfl).trans (optSVal (zc.dep 3 16 (by kernel_rfl) (by decide)) rfl rfl)) (by first | omega | (simp; omega)) ⟨_, rfl, Below.refl _ _, optDef zβ rfl⟩
        refine ⟨.inl ⟨rfl, true, .none rfl, (fun gg b h => by cases h), fun h w => optUndef h, fun zβ za zw zc => ?_⟩, ?_⟩
        · exact ld_44 rfl ((show za.eval (.tmp 17) = za.tmps.getD 17 undef from rfl).trans (optSVal (zc.dep 4 17 (by kernel_rfl) (by decide)) rfl rfl)) (bkeeps (bstep hb3 (zc.early (by kernel_rfl))) _ _ (hc13 x.2.2 (by first | omega | (simp; omega))).1) (bkeeps (bstep hb3 (zc.early (by kernel_rfl))) _ _ (hc13 x.2.2 (by first | omega | (simp; omega))).2.1) (bkeeps (bstep hb3 (zc.early (by kernel_rfl))) _ _ (hc13 x.2.2 (by first | omega | (simp; omega))).2.2.1) (bkeeps (bstep hb3 (zc.early (by kernel_rfl))) _ _ (hc13 x.2.2 (by first | omega | (simp; omega))).2.2.2.1) (bkeeps (bstep hb3 (zc.early (by kernel_rfl))) _ _ (hc13 x.2.2 (by first | omega | (simp; omega))).2.2.2.2.1) ⟨_, rfl, Below.refl _ _, optDef zβ rfl⟩
        refine ⟨.inl ⟨rfl, true, .none rfl, (fun gg b h => by cases h), fun h w => optUndef h, fun zβ za zw zc => ?_⟩, ?_⟩
        · exact wp_call (by kernel_rfl) rfl (hv2 ((show za.eval (.tmp 14) = za.tmps.getD 14 undef from rfl).trans (optSVal (zc.dep 1 14 (by kernel_rfl) (by decide)) rfl rfl)) ((show za.eval (.tmp 18) = za.tmps.getD 18 undef from rfl).trans (optSVal (zc.dep 5 18 (by kernel_rfl) (by decide)) rfl rfl))) (rlit_any s (lget l x.2.2) _ _ _ _ (h.pl (by omega)) (h.pr (by omega)) (isLi_mk (IsT.below (bstep hb3 (zc.early (by kernel_rfl))) (InT.isT (hc13 x.2.2 (by first | omega | (simp; omega))).2.2.2.2.2.1)) (IsT.below (bstep hb3 (zc.early (by kernel_rfl))) (InT.isT (hc13 x.2.2 (by first | omega | (simp; omega))).2.2.2.2.2.2))) (hs.below (bstep hb3 (zc.early (by kernel_rfl))))) (fun v w' h => ⟨v, rfl, h.2, optDef zβ (NewL.older h.1 (zc.early (by kernel_rfl)).size)⟩)
        refine ⟨.inl ⟨rfl, true, .none rfl, (fun gg b h => by cases h), fun h w => optUndef h, fun zβ za zw zc => ?_⟩, ?_⟩
        · have zv := (optSMem (zc.dep 6 19 (by kernel_rfl) (by decide)) rfl rfl)
          obtain ⟨a1, a2, c1, c2, e1⟩ := zv.parts
          rw [e1] at zv
          exact row_42_1 rfl ((show za.eval (.tmp 19) = za.tmps.getD 19 undef from rfl).trans e1) ⟨_, rfl, balloc _ _, optDef zβ ⟨_, _, rfl, zc.chg.size, Blk.new' rfl, eltL.below' (balloc _ _) zv.elt⟩⟩
        refine ⟨.inr (.inl ⟨rfl, rfl, fun za zw zc => ?_⟩), ?_⟩
        · obtain ⟨g1, cs, e1, hg1, hB1, hin⟩ := (optSMem (zc.dep 7 20 (by kernel_rfl) (by decide)) rfl rfl)
          exact wp_appE (E := eltL) (size := 5) (bytes := 72) (z := .agg #[.bool false, .int .i64 0, .slice none 0 0, .int .i64 0, .slice none 0 0]) rfl Try.underlying42 (by kernel_rfl) rfl (by decide) rfl ((show za.eval (.tmp 13) = za.tmps.getD 13 undef from rfl).trans (optSVal (zc.dep 0 13 (by kernel_rfl) (by decide)) rfl rfl)) ((show za.eval (.tmp 20) = za.tmps.getD 20 undef from rfl).trans e1) (ho4.below zc.below) hB1 (eltL.mono (fun b hb _ => ⟨by omega, fun e => by have z := (ho4.lt b e).2; omega⟩) hin) (by omega) (by omega) (by have z := zc.below.size; omega) (fun ra rc w' h1 h2 _ => ⟨ra, rc, rfl, h1, h2⟩)
        refine ⟨.inr (.inr ⟨rfl, rfl, 21, by kernel_rfl, rfl⟩), ?_⟩
        exact trivial
      · intro za w14 ra17 rc18 zh zv zv2 hG15 hc16 zu
        have zh := zh.cons (d := 5) zv2
        have hb19 := chg_below hb3 hc16 (fun b hb => (fun h => by have h := hSlo _ h; (try dsimp only at *); omega))
        clear zu
        refine (show WE _ [(0, .slice sa s.length sc), (1, .slice a l.length c), (4, .slice none 0 0), (5, .slice ra17 ((x.2.2 + 1)) rc18), (6, .int .i64 (((x.2.2 : Nat) : Int))), (10, .bool ((decide ((((x.2.2 : Nat) : Int) : Int) < (((l.length : Nat) : Int) : Int)))))] w14 _ .normal from ?_) za (zh.sub ⟨rfl, rfl, rfl, rfl, rfl, rfl, trivial⟩)
        refine WE.blockNormal ?_
        refine WE.next ?_
        refine WC.region ?_
        refine WL.val (.int .i64 (((x.2.2 : Nat) : Int))) rfl rfl rfl (fun za zC zh zk => wp_move rfl (zh.ev rfl) zk) ?_
        refine WL.val (.int .i64 ((((x.2.2 + 1) : Nat) : Int))) rfl rfl rfl (fun za zC zh zk => addb_3 rfl (zh.ev rfl) (zh.ev rfl) (wrap_eq (by omega) (by omega) (by omega)) zk) ?_
        refine WL.val (.int .i64 ((((x.2.2 + 1) : Nat) : Int))) rfl rfl rfl (fun za zC zh zk => wp_assign rfl (zh.ev rfl) zk) ?_
        refine WL.nil (WE.sub (K' := [(0, .slice sa s.length sc), (1, .slice a l.length c), (4, .slice none 0 0), (5, .slice ra17 ((x.2.2 + 1)) rc18), (6, .int .i64 ((((x.2.2 + 1) : Nat) : Int))), (10, .bool ((decide ((((x.2.2 : Nat) : Int) : Int) < (((l.length : Nat) : Int) : Int)))))]) ⟨rfl, rfl, rfl, rfl, rfl, rfl, trivial⟩ ?_)
        refine WE.round ((ra17, rc18, x.2.2 + 1)) ⟨rfl, rfl, rfl, rfl, rfl, trivial⟩ ?_ ?_
        · exact ⟨by (try dsimp only at *); omega, hb19.size, hb19, (by rw [← take_mapL (by (try dsimp only at *); omega)]; exact hG15)⟩
        · dsimp only; omega
    · have h5 : ¬ ((((x.2.2 : Nat) : Int) : Int) < (((l.length : Nat) : Int) : Int)) := by simpa using h5
      refine WC.exit ?_
      refine WE.thenExit ?_
      refine WE.thenExit ?_
      refine WE.blockIs rfl ?_
      refine WE.next ?_
      refine WC.seq ?_
      refine WC.region ?_
      refine WL.val (.slice x.1 x.2.2 x.2.1) rfl rfl rfl (fun za zC zh zk => wp_move rfl (zh.ev rfl) zk) ?_
      refine WL.val (.slice x.1 x.2.2 x.2.1) rfl rfl rfl (fun za zC zh zk => wp_assign rfl (zh.ev rfl) zk) ?_
      refine WL.nil (WE.sub (K' := [(0, .slice sa s.length sc), (1, .slice a l.length c), (4, .slice x.1 x.2.2 x.2.1), (5, .slice x.1 x.2.2 x.2.1), (6, .int .i64 (((x.2.2 : Nat) : Int))), (10, .bool ((decide ((((x.2.2 : Nat) : Int) : Int) < (((l.length : Nat) : Int) : Int)))))]) ⟨rfl, rfl, rfl, rfl, rfl, rfl, trivial⟩ ?_)
      refine WE.next ?_
      refine WC.ret ?_
      refine WE.ret1 rfl rfl ?_
      have z := ho4
      rw [List.take_of_length_le (by omega)] at z
      obtain ⟨e, z⟩ := newC_row (w0 := w) z (by omega)
      exact ⟨_, rfl, ⟨_, _, by rw [← e], z⟩, hb3⟩

/-- So far they are the same. -/
def LqTo (a b : List Li) (k : Nat) : Prop := ∀ i, i < k → lget a i = lget b i
theorem li_eq {x y : Li} (h0 : x.neg = y.neg) (h1 : T.same x.l y.l = true) (h2 : T.same x.r y.r = true) : x = y := by
  obtain ⟨n, t, u⟩ := x; obtain ⟨n', t', u'⟩ := y
  have e1 := (T.same_iff t t').1 h1
  have e2 := (T.same_iff u u').1 h2
  simp only at h0 e1 e2
  rw [h0, e1, e2]
theorem LqTo.step {a b : List Li} {k : Nat} (h : LqTo a b k) (h1 : lget a k = lget b k) : LqTo a b (k + 1) := fun i hi => by
  rcases Nat.lt_or_ge i k with q | q
  · exact h i q
  · obtain rfl : i = k := by omega
    exact h1
theorem clSame_all {a b : List Li} {k : Nat} (hl : a.length = b.length) (h : LqTo a b k) (hk : a.length ≤ k) : clSame a b = true := by
  rw [clSame, decide_eq_true_eq]
  refine List.ext_getElem hl fun i h1 h2 => ?_
  have := h i (by omega)
  rwa [lget_lt h1, lget_lt h2] at this
theorem clSame_len {a b : List Li} (h : a.length ≠ b.length) : clSame a b = false := by
  rw [clSame, decide_eq_false_iff_not]; rintro rfl; exact h rfl
theorem clSame_at {a b : List Li} {k : Nat} (h : ¬ lget a k = lget b k) : clSame a b = false := by
  rw [clSame, decide_eq_false_iff_not]; rintro rfl; exact h rfl
theorem li_dec {x y : Li} {b : Bool} (h : (((x.neg != y.neg) || !T.same x.l y.l) || !T.same x.r y.r) = b) : b = !decide (x = y) := by
  subst h
  rcases hn : (x.neg != y.neg) with _ | _
  · have hn' : x.neg = y.neg := by simpa using hn
    rcases h1 : T.same x.l y.l with _ | _
    · have : ¬ x = y := by rintro rfl; rw [T.same_refl] at h1; cases h1
      simp [this]
    · rcases h2 : T.same x.r y.r with _ | _
      · have : ¬ x = y := by rintro rfl; rw [T.same_refl] at h2; cases h2
        simp [this]
      · simp [li_eq hn' h1 h2]
  · have : ¬ x = y := by rintro rfl; simp at hn
    simp [this]
theorem li_yes {x y : Li} (h : x.neg = y.neg ∧ T.same x.l y.l = true ∧ T.same x.r y.r = true) : x = y := li_eq h.1 h.2.1 h.2.2
theorem li_no {x y : Li} (e : x = y) (h : (¬ x.neg = y.neg ∨ T.same x.l y.l = false) ∨ T.same x.r y.r = false) : False := by
  subst e
  simp [T.same_refl] at h
set_option maxRecDepth 100000 in
theorem same_cl (l1 l2 : List Li) (w : World) (pa pb : Option Addr) (ca cb : Nat) (h1 : l1.length ≤ maxLen) (ha : IsLs w l1 pa) (hb : IsLs w l2 pb) : Calls Try.prog 25 #[.slice pa l1.length ca, .slice pb l2.length cb] w (Ret fun v' w' => v' = .bool (clSame l1 l2) ∧ Below w.heap.size w w') := by
  unfold maxLen at h1
  refine Calls.walk (l := [.slice pa l1.length ca, .slice pb l2.length cb]) Try.func25 rfl (by kernel_rfl) ?_
  refine WC.sub (K' := [(0, .slice pa l1.length ca), (1, .slice pb l2.length cb)]) ⟨rfl, rfl, trivial⟩ ?_
  refine WC.seq ?_
  refine WC.region ?_
  refine WL.val (.bool false) rfl rfl rfl (fun za zC zh zk => wp_assign rfl (zh.ev rfl) zk) ?_
  refine WL.nil (WE.sub (K' := [(0, .slice pa l1.length ca), (1, .slice pb l2.length cb), (4, .bool false)]) ⟨rfl, rfl, rfl, trivial⟩ ?_)
  refine WE.next ?_
  refine WC.seq ?_
  refine WC.seq ?_
  refine WC.region ?_
  refine WL.val (.slice pa l1.length ca) rfl rfl rfl (fun za zC zh zk => wp_move rfl (zh.ev rfl) zk) ?_
  refine WL.val (.int .i64 (((l1.length : Nat) : Int))) rfl rfl rfl (fun za zC zh zk => len_42 rfl (zh.ev rfl) zk) ?_
  refine WL.val (.slice pb l2.length cb) rfl rfl rfl (fun za zC zh zk => wp_move rfl (zh.ev rfl) zk) ?_
  refine WL.val (.int .i64 (((l2.length : Nat) : Int))) rfl rfl rfl (fun za zC zh zk => len_42 rfl (zh.ev rfl) zk) ?_
  refine WL.val (.bool (((((l1.length : Nat) : Int) : Int) != (((l2.length : Nat) : Int) : Int)))) rfl rfl rfl (fun za zC zh zk => neq_3 rfl (zh.ev rfl) (zh.ev rfl) zk) ?_
  refine WL.nil (WE.sub (K' := [(0, .slice pa l1.length ca), (1, .slice pb l2.length cb), (4, .bool false), (10, .bool (((((l1.length : Nat) : Int) : Int) != (((l2.length : Nat) : Int) : Int))))]) ⟨rfl, rfl, rfl, rfl, trivial⟩ ?_)
  refine WE.next ?_
  refine WC.cond rfl (fun h1 => ?_) (fun h1 => ?_)
  · have h1 : (((l1.length : Nat) : Int) : Int) ≠ (((l2.length : Nat) : Int) : Int) := by simpa using h1
    refine WC.seq ?_
    refine WC.region ?_
    refine WL.val (.bool false) rfl rfl rfl (fun za zC zh zk => wp_assign rfl (zh.ev rfl) zk) ?_
    refine WL.nil (WE.sub (K' := [(0, .slice pa l1.length ca), (1, .slice pb l2.length cb), (4, .bool false), (10, .bool (((((l1.length : Nat) : Int) : Int) != (((l2.length : Nat) : Int) : Int))))]) ⟨rfl, rfl, rfl, rfl, trivial⟩ ?_)
    refine WE.next ?_
    refine WC.ret ?_
    refine WE.thenRet ?_
    refine WE.ret1 rfl rfl ?_
    exact ⟨_, rfl, congrArg Value.bool (Eq.symm (clSame_len (by omega))), (Below.refl _ _)⟩
  · have h1 : ¬ ((((l1.length : Nat) : Int) : Int) ≠ (((l2.length : Nat) : Int) : Int)) := by simpa using h1
    refine WC.skip ?_
    refine WE.next ?_
    refine WC.seq ?_
    refine WC.seq ?_
    refine WC.region ?_
    refine WL.val (.slice pa l1.length ca) rfl rfl rfl (fun za zC zh zk => wp_move rfl (zh.ev rfl) zk) ?_
    refine WL.val (.int .i64 (((l1.length : Nat) : Int))) rfl rfl rfl (fun za zC zh zk => len_42 rfl (zh.ev rfl) zk) ?_
    refine WL.val (.int .i64 0) rfl rfl rfl (fun za zC zh zk => wp_move rfl (zh.ev rfl) zk) ?_
    refine WL.nil (WE.sub (K' := [(0, .slice pa l1.length ca), (1, .slice pb l2.length cb), (4, .bool false), (10, .bool (((((l1.length : Nat) : Int) : Int) != (((l2.length : Nat) : Int) : Int)))), (12, .int .i64 (((l1.length : Nat) : Int))), (13, .int .i64 0)]) ⟨rfl, rfl, rfl, rfl, rfl, rfl, trivial⟩ ?_)
    refine WE.next ?_
    refine WC.block ?_
    have hlen : l1.length = l2.length := by omega
    refine WC.loop (X := Nat) (fun k => l1.length - k) (fun k => [(0, .slice pa l1.length ca), (1, .slice pb l2.length cb), (10, .bool (((((l1.length : Nat) : Int) : Int) != (((l2.length : Nat) : Int) : Int)))), (12, .int .i64 (((l1.length : Nat) : Int))), (13, .int .i64 (((k : Nat) : Int)))]) (fun k w2 => k ≤ l1.length ∧ LqTo l1 l2 k ∧ Below w.heap.size w w2) 0 ⟨rfl, rfl, rfl, rfl, rfl, trivial⟩ ?_ ?_
    · exact ⟨Nat.zero_le _, fun i h => absurd h (Nat.not_lt_zero i), (Below.refl _ _)⟩
    · rintro k w2 ⟨hk, hE, hb3⟩
      refine WC.seq ?_
      refine WC.region ?_
      refine WL.val (.bool ((decide ((((k : Nat) : Int) : Int) < (((l1.length : Nat) : Int) : Int))))) rfl rfl rfl (fun za zC zh zk => lss_3 rfl (zh.ev rfl) (zh.ev rfl) zk) ?_
      refine WL.nil (WE.sub (K' := [(0, .slice pa l1.length ca), (1, .slice pb l2.length cb), (10, .bool (((((l1.length : Nat) : Int) : Int) != (((l2.length : Nat) : Int) : Int)))), (12, .int .i64 (((l1.length : Nat) : Int))), (13, .int .i64 (((k : Nat) : Int))), (14, .bool ((decide ((((k : Nat) : Int) : Int) < (((l1.length : Nat) : Int) : Int)))))]) ⟨rfl, rfl, rfl, rfl, rfl, rfl, trivial⟩ ?_)
      refine WE.next ?_
      refine WC.seq ?_
      refine WC.cond rfl (fun h4 => ?_) (fun h4 => ?_)
      · have h4 : (((k : Nat) : Int) : Int) < (((l1.length : Nat) : Int) : Int) := by simpa using h4
        refine WC.skip ?_
        refine WE.next ?_
        refine WC.seq ?_
        refine WC.block ?_
        refine WC.seq ?_
        refine WC.region ?_
        refine WL.val (.int .i64 (((k : Nat) : Int))) rfl rfl rfl (fun za zC zh zk => wp_move rfl (zh.ev rfl) zk) ?_
        refine WL.val (.int .i64 (((k : Nat) : Int))) rfl rfl rfl (fun za zC zh zk => wp_assign rfl (zh.ev rfl) zk) ?_
        refine WL.nil (WE.sub (K' := [(0, .slice pa l1.length ca), (1, .slice pb l2.length cb), (5, .int .i64 (((k : Nat) : Int))), (10, .bool (((((l1.length : Nat) : Int) : Int) != (((l2.length : Nat) : Int) : Int)))), (12, .int .i64 (((l1.length : Nat) : Int))), (13, .int .i64 (((k : Nat) : Int))), (14, .bool ((decide ((((k : Nat) : Int) : Int) < (((l1.length : Nat) : Int) : Int)))))]) ⟨rfl, rfl, rfl, rfl, rfl, rfl, rfl, trivial⟩ ?_)
        refine WE.next ?_
        refine WC.seq ?_
        obtain ⟨b5, o6, A7, C8, A9, C10, ha11, hc12⟩ := InRow.openL ha
        obtain ⟨b13, o14, A15, C16, A17, C18, ha19, hc20⟩ := InRow.openL hb
        refine WC.opt [(true, .val (.slice pa l1.length ca)), (true, .val (.int .i64 (((k : Nat) : Int)))), (true, .val (.pointer (some ⟨b5, o6 + k * 5, none⟩))), (true, .val (.pointer (some ⟨b5, o6 + k * 5, none⟩))), (true, .val (.bool ((lget l1 k).neg))), (true, .val (.slice pb l2.length cb)), (true, .val (.int .i64 (((k : Nat) : Int)))), (true, .val (.pointer (some ⟨b13, o14 + k * 5, none⟩))), (true, .val (.pointer (some ⟨b13, o14 + k * 5, none⟩))), (true, .val (.bool ((lget l2 k).neg))), (true, .val (.bool (((lget l1 k).neg != (lget l2 k).neg)))), (true, .val (.bool (((lget l1 k).neg != (lget l2 k).neg)))), ((true && !((lget l1 k).neg != (lget l2 k).neg)), .val (.slice pa l1.length ca)), ((true && !((lget l1 k).neg != (lget l2 k).neg)), .val (.int .i64 (((k : Nat) : Int)))), ((true && !((lget l1 k).neg != (lget l2 k).neg)), .val (.pointer (some ⟨b5, o6 + k * 5, none⟩))), ((true && !((lget l1 k).neg != (lget l2 k).neg)), .val (.pointer (some ⟨b5, o6 + k * 5 + 1, none⟩))), ((true && !((lget l1 k).neg != (lget l2 k).neg)), .val (.agg #[.int .i64 ((lget l1 k).l.f), .slice ((A7 k)) ((lget l1 k).l.args.length) ((C8 k))])), ((true && !((lget l1 k).neg != (lget l2 k).neg)), .val (.slice pb l2.length cb)), ((true && !((lget l1 k).neg != (lget l2 k).neg)), .val (.int .i64 (((k : Nat) : Int)))), ((true && !((lget l1 k).neg != (lget l2 k).neg)), .val (.pointer (some ⟨b13, o14 + k * 5, none⟩))), ((true && !((lget l1 k).neg != (lget l2 k).neg)), .val (.pointer (some ⟨b13, o14 + k * 5 + 1, none⟩))), ((true && !((lget l1 k).neg != (lget l2 k).neg)), .val (.agg #[.int .i64 ((lget l2 k).l.f), .slice ((A15 k)) ((lget l2 k).l.args.length) ((C16 k))])), ((true && !((lget l1 k).neg != (lget l2 k).neg)), .val (.bool ((T.same (lget l1 k).l (lget l2 k).l)))), ((true && !((lget l1 k).neg != (lget l2 k).neg)), .val (.bool ((!(T.same (lget l1 k).l (lget l2 k).l))))), (true, .val (.bool ((((lget l1 k).neg != (lget l2 k).neg) || (!(T.same (lget l1 k).l (lget l2 k).l)))))), (true, .val (.bool ((((lget l1 k).neg != (lget l2 k).neg) || (!(T.same (lget l1 k).l (lget l2 k).l)))))), ((true && !(((lget l1 k).neg != (lget l2 k).neg) || (!(T.same (lget l1 k).l (lget l2 k).l)))), .val (.slice pa l1.length ca)), ((true && !(((lget l1 k).neg != (lget l2 k).neg) || (!(T.same (lget l1 k).l (lget l2 k).l)))), .val (.int .i64 (((k : Nat) : Int)))), ((true && !(((lget l1 k).neg != (lget l2 k).neg) || (!(T.same (lget l1 k).l (lget l2 k).l)))), .val (.pointer (some ⟨b5, o6 + k * 5, none⟩))), ((true && !(((lget l1 k).neg != (lget l2 k).neg) || (!(T.same (lget l1 k).l (lget l2 k).l)))), .val (.pointer (some ⟨b5, o6 + k * 5 + 3, none⟩))), ((true && !(((lget l1 k).neg != (lget l2 k).neg) || (!(T.same (lget l1 k).l (lget l2 k).l)))), .val (.agg #[.int .i64 ((lget l1 k).r.f), .slice ((A9 k)) ((lget l1 k).r.args.length) ((C10 k))])), ((true && !(((lget l1 k).neg != (lget l2 k).neg) || (!(T.same (lget l1 k).l (lget l2 k).l)))), .val (.slice pb l2.length cb)), ((true && !(((lget l1 k).neg != (lget l2 k).neg) || (!(T.same (lget l1 k).l (lget l2 k).l)))), .val (.int .i64 (((k : Nat) : Int)))), ((true && !(((lget l1 k).neg != (lget l2 k).neg) || (!(T.same (lget l1 k).l (lget l2 k).l)))), .val (.pointer (some ⟨b13, o14 + k * 5, none⟩))), ((true && !(((lget l1 k).neg != (lget l2 k).neg) || (!(T.same (lget l1 k).l (lget l2 k).l)))), .val (.pointer (some ⟨b13, o14 + k * 5 + 3, none⟩))), ((true && !(((lget l1 k).neg != (lget l2 k).neg) || (!(T.same (lget l1 k).l (lget l2 k).l)))), .val (.agg #[.int .i64 ((lget l2 k).r.f), .slice ((A17 k)) ((lget l2 k).r.args.length) ((C18 k))])), ((true && !(((lget l1 k).neg != (lget l2 k).neg) || (!(T.same (lget l1 k).l (lget l2 k).l)))), .val (.bool ((T.same (lget l1 k).r (lget l2 k).r)))), ((true && !(((lget l1 k).neg != (lget l2 k).neg) || (!(T.same (lget l1 k).l (lget l2 k).l)))), .val (.bool ((!(T.same (lget l1 k).r (lget l2 k).r))))), (true, .val (.bool (((((lget l1 k).neg != (lget l2 k).neg) || (!(T.same (lget l1 k).l (lget l2 k).l))) || (!(T.same (lget l1 k).r (lget l2 k).r))))))] [(0, .slice pa l1.length ca), (1, .slice pb l2.length cb), (5, .int .i64 (((k : Nat) : Int))), (10, .bool (((((l1.length : Nat) : Int) : Int) != (((l2.length : Nat) : Int) : Int)))), (12, .int .i64 (((l1.length : Nat) : Int))), (13, .int .i64 (((k : Nat) : Int))), (14, .bool ((decide ((((k : Nat) : Int) : Int) < (((l1.length : Nat) : Int) : Int)))))] ⟨rfl, rfl, rfl, rfl, rfl, rfl, rfl, trivial⟩ (by kernel_rfl) (by kernel_rfl) (by kernel_rfl) ?_ ?_
        · refine ⟨⟨true, .none rfl, fun h w => optUndef h, fun zβ za zw zc => ?_⟩, ?_⟩
          · exact wp_move rfl (zc.kn.ev rfl) ⟨_, rfl, Below.refl _ _, optDef zβ rfl⟩
          refine ⟨⟨true, .none rfl, fun h w => optUndef h, fun zβ za zw zc => ?_⟩, ?_⟩
          · exact wp_move rfl (zc.kn.ev rfl) ⟨_, rfl, Below.refl _ _, optDef zβ rfl⟩
          refine ⟨⟨true, .none rfl, fun h w => optUndef h, fun zβ za zw zc => ?_⟩, ?_⟩
          · exact ix_42 (k := k) rfl ((show za.eval (.tmp 16) = za.tmps.getD 16 undef from rfl).trans (optVal (zc.dep 0 16 (by kernel_rfl)) rfl rfl)) (ha11 k (by first | omega | (simp; omega))) ((show za.eval (.tmp 17) = za.tmps.getD 17 undef from rfl).trans (optVal (zc.dep 1 17 (by kernel_rfl)) rfl rfl)) (by first | omega | (simp; omega)) ⟨_, rfl, Below.refl _ _, optDef zβ rfl⟩
          refine ⟨⟨true, .none rfl, fun h w => optUndef h, fun zβ za zw zc => ?_⟩, ?_⟩
          · exact fld_44_0 rfl ((show za.eval (.tmp 18) = za.tmps.getD 18 undef from rfl).trans (optVal (zc.dep 2 18 (by kernel_rfl)) rfl rfl)) ⟨_, rfl, Below.refl _ _, optDef zβ rfl⟩
          refine ⟨⟨true, .none rfl, fun h w => optUndef h, fun zβ za zw zc => ?_⟩, ?_⟩
          · exact ld_4 rfl ((show za.eval (.tmp 19) = za.tmps.getD 19 undef from rfl).trans (optVal (zc.dep 3 19 (by kernel_rfl)) rfl rfl)) (bkeeps (bstep hb3 zc.below) _ _ (hc12 k (by first | omega | (simp; omega))).1) ⟨_, rfl, Below.refl _ _, optDef zβ rfl⟩
          refine ⟨⟨true, .none rfl, fun h w => optUndef h, fun zβ za zw zc => ?_⟩, ?_⟩
          · exact wp_move rfl (zc.kn.ev rfl) ⟨_, rfl, Below.refl _ _, optDef zβ rfl⟩
          refine ⟨⟨true, .none rfl, fun h w => optUndef h, fun zβ za zw zc => ?_⟩, ?_⟩
          · exact wp_move rfl (zc.kn.ev rfl) ⟨_, rfl, Below.refl _ _, optDef zβ rfl⟩
          refine ⟨⟨true, .none rfl, fun h w => optUndef h, fun zβ za zw zc => ?_⟩, ?_⟩
          · exact ix_42 (k := k) rfl ((show za.eval (.tmp 21) = za.tmps.getD 21 undef from rfl).trans (optVal (zc.dep 5 21 (by kernel_rfl)) rfl rfl)) (ha19 k (by first | omega | (simp; omega))) ((show za.eval (.tmp 22) = za.tmps.getD 22 undef from rfl).trans (optVal (zc.dep 6 22 (by kernel_rfl)) rfl rfl)) (by first | omega | (simp; omega)) ⟨_, rfl, Below.refl _ _, optDef zβ rfl⟩
          refine ⟨⟨true, .none rfl, fun h w => optUndef h, fun zβ za zw zc => ?_⟩, ?_⟩
          · exact fld_44_0 rfl ((show za.eval (.tmp 23) = za.tmps.getD 23 undef from rfl).trans (optVal (zc.dep 7 23 (by kernel_rfl)) rfl rfl)) ⟨_, rfl, Below.refl _ _, optDef zβ rfl⟩
          refine ⟨⟨true, .none rfl, fun h w => optUndef h, fun zβ za zw zc => ?_⟩, ?_⟩
          · exact ld_4 rfl ((show za.eval (.tmp 24) = za.tmps.getD 24 undef from rfl).trans (optVal (zc.dep 8 24 (by kernel_rfl)) rfl rfl)) (bkeeps (bstep hb3 zc.below) _ _ (hc20 k (by first | omega | (simp; omega))).1) ⟨_, rfl, Below.refl _ _, optDef zβ rfl⟩
          refine ⟨⟨true, .none rfl, fun h w => optUndef h, fun zβ za zw zc => ?_⟩, ?_⟩
          · exact neq_4 rfl ((show za.eval (.tmp 20) = za.tmps.getD 20 undef from rfl).trans (optVal (zc.dep 4 20 (by kernel_rfl)) rfl rfl)) ((show za.eval (.tmp 25) = za.tmps.getD 25 undef from rfl).trans (optVal (zc.dep 9 25 (by kernel_rfl)) rfl rfl)) ⟨_, rfl, Below.refl _ _, optDef zβ rfl⟩
          refine ⟨⟨true, .none rfl, fun h w => optUndef h, fun zβ za zw zc => ?_⟩, ?_⟩
          · exact wp_move rfl ((show za.eval (.tmp 26) = za.tmps.getD 26 undef from rfl).trans (optVal (zc.dep 10 26 (by kernel_rfl)) rfl rfl)) ⟨_, rfl, Below.refl _ _, optDef zβ rfl⟩
          refine ⟨⟨(true && !((lget l1 k).neg != (lget l2 k).neg)), .no (c := ((lget l1 k).neg != (lget l2 k).neg)) (d := true) rfl (fun v w h => h), fun h w => optUndef h, fun zβ za zw zc => ?_⟩, ?_⟩
          · exact wp_move rfl (zc.kn.ev rfl) ⟨_, rfl, Below.refl _ _, optDef zβ rfl⟩
          refine ⟨⟨(true && !((lget l1 k).neg != (lget l2 k).neg)), .no (c := ((lget l1 k).neg != (lget l2 k).neg)) (d := true) rfl (fun v w h => h), fun h w => optUndef h, fun zβ za zw zc => ?_⟩, ?_⟩
          · exact wp_move rfl (zc.kn.ev rfl) ⟨_, rfl, Below.refl _ _, optDef zβ rfl⟩
          refine ⟨⟨(true && !((lget l1 k).neg != (lget l2 k).neg)), .no (c := ((lget l1 k).neg != (lget l2 k).neg)) (d := true) rfl (fun v w h => h), fun h w => optUndef h, fun zβ za zw zc => ?_⟩, ?_⟩
          · exact ix_42 (k := k) rfl ((show za.eval (.tmp 28) = za.tmps.getD 28 undef from rfl).trans (optVal (zc.dep 12 28 (by kernel_rfl)) rfl zβ)) (ha11 k (by first | omega | (have zz := zβ; simp only [Bool.and_eq_true, Bool.or_eq_true, Bool.true_and, Bool.not_eq_true', Bool.or_eq_false_iff, Bool.and_eq_false_iff, beq_eq_false_iff_ne, ne_eq, beq_iff_eq, decide_eq_true_eq, decide_eq_false_iff_not, bne_iff_ne] at zz; omega))) ((show za.eval (.tmp 29) = za.tmps.getD 29 undef from rfl).trans (optVal (zc.dep 13 29 (by kernel_rfl)) rfl zβ)) (by first | omega | (have zz := zβ; simp only [Bool.and_eq_true, Bool.or_eq_true, Bool.true_and, Bool.not_eq_true', Bool.or_eq_false_iff, Bool.and_eq_false_iff, beq_eq_false_iff_ne, ne_eq, beq_iff_eq, decide_eq_true_eq, decide_eq_false_iff_not, bne_iff_ne] at zz; omega)) ⟨_, rfl, Below.refl _ _, optDef zβ rfl⟩
          refine ⟨⟨(true && !((lget l1 k).neg != (lget l2 k).neg)), .no (c := ((lget l1 k).neg != (lget l2 k).neg)) (d := true) rfl (fun v w h => h), fun h w => optUndef h, fun zβ za zw zc => ?_⟩, ?_⟩
          · exact fld_44_1 rfl ((show za.eval (.tmp 30) = za.tmps.getD 30 undef from rfl).trans (optVal (zc.dep 14 30 (by kernel_rfl)) rfl zβ)) ⟨_, rfl, Below.refl _ _, optDef zβ rfl⟩
          refine ⟨⟨(true && !((lget l1 k).neg != (lget l2 k).neg)), .no (c := ((lget l1 k).neg != (lget l2 k).neg)) (d := true) rfl (fun v w h => h), fun h w => optUndef h, fun zβ za zw zc => ?_⟩, ?_⟩
          · exact ld_32 rfl ((show za.eval (.tmp 31) = za.tmps.getD 31 undef from rfl).trans (optVal (zc.dep 15 31 (by kernel_rfl)) rfl zβ)) (bkeeps (bstep hb3 zc.below) _ _ (hc12 k (by first | omega | (have zz := zβ; simp only [Bool.and_eq_true, Bool.or_eq_true, Bool.true_and, Bool.not_eq_true', Bool.or_eq_false_iff, Bool.and_eq_false_iff, beq_eq_false_iff_ne, ne_eq, beq_iff_eq, decide_eq_true_eq, decide_eq_false_iff_not, bne_iff_ne] at zz; omega))).2.1) (bkeeps (bstep hb3 zc.below) _ _ (hc12 k (by first | omega | (have zz := zβ; simp only [Bool.and_eq_true, Bool.or_eq_true, Bool.true_and, Bool.not_eq_true', Bool.or_eq_false_iff, Bool.and_eq_false_iff, beq_eq_false_iff_ne, ne_eq, beq_iff_eq, decide_eq_true_eq, decide_eq_false_iff_not, bne_iff_ne] at zz; omega))).2.2.1) ⟨_, rfl, Below.refl _ _, optDef zβ rfl⟩
          refine ⟨⟨(true && !((lget l1 k).neg != (lget l2 k).neg)), .no (c := ((lget l1 k).neg != (lget l2 k).neg)) (d := true) rfl (fun v w h => h), fun h w => optUndef h, fun zβ za zw zc => ?_⟩, ?_⟩
          · exact wp_move rfl (zc.kn.ev rfl) ⟨_, rfl, Below.refl _ _, optDef zβ rfl⟩
          refine ⟨⟨(true && !((lget l1 k).neg != (lget l2 k).neg)), .no (c := ((lget l1 k).neg != (lget l2 k).neg)) (d := true) rfl (fun v w h => h), fun h w => optUndef h, fun zβ za zw zc => ?_⟩, ?_⟩
          · exact wp_move rfl (zc.kn.ev rfl) ⟨_, rfl, Below.refl _ _, optDef zβ rfl⟩
          refine ⟨⟨(true && !((lget l1 k).neg != (lget l2 k).neg)), .no (c := ((lget l1 k).neg != (lget l2 k).neg)) (d := true) rfl (fun v w h => h), fun h w => optUndef h, fun zβ za zw zc => ?_⟩, ?_⟩
          · exact ix_42 (k := k) rfl ((show za.eval (.tmp 33) = za.tmps.getD 33 undef from rfl).trans (optVal (zc.dep 17 33 (by kernel_rfl)) rfl zβ)) (ha19 k (by first | omega | (have zz := zβ; simp only [Bool.and_eq_true, Bool.or_eq_true, Bool.true_and, Bool.not_eq_true', Bool.or_eq_false_iff, Bool.and_eq_false_iff, beq_eq_false_iff_ne, ne_eq, beq_iff_eq, decide_eq_true_eq, decide_eq_false_iff_not, bne_iff_ne] at zz; omega))) ((show za.eval (.tmp 34) = za.tmps.getD 34 undef from rfl).trans (optVal (zc.dep 18 34 (by kernel_rfl)) rfl zβ)) (by first | omega | (have zz := zβ; simp only [Bool.and_eq_true, Bool.or_eq_true, Bool.true_and, Bool.not_eq_true', Bool.or_eq_false_iff, Bool.and_eq_false_iff, beq_eq_false_iff_ne, ne_eq, beq_iff_eq, decide_eq_true_eq, decide_eq_false_iff_not, bne_iff_ne] at zz; omega)) ⟨_, rfl, Below.refl _ _, optDef zβ rfl⟩
          refine ⟨⟨(true && !((lget l1 k).neg != (lget l2 k).neg)), .no (c := ((lget l1 k).neg != (lget l2 k).neg)) (d := true) rfl (fun v w h => h), fun h w => optUndef h, fun zβ za zw zc => ?_⟩, ?_⟩
          · exact fld_44_1 rfl ((show za.eval (.tmp 35) = za.tmps.getD 35 undef from rfl).trans (optVal (zc.dep 19 35 (by kernel_rfl)) rfl zβ)) ⟨_, rfl, Below.refl _ _, optDef zβ rfl⟩
          refine ⟨⟨(true && !((lget l1 k).neg != (lget l2 k).neg)), .no (c := ((lget l1 k).neg != (lget l2 k).neg)) (d := true) rfl (fun v w h => h), fun h w => optUndef h, fun zβ za zw zc => ?_⟩, ?_⟩
          · exact ld_32 rfl ((show za.eval (.tmp 36) = za.tmps.getD 36 undef from rfl).trans (optVal (zc.dep 20 36 (by kernel_rfl)) rfl zβ)) (bkeeps (bstep hb3 zc.below) _ _ (hc20 k (by first | omega | (have zz := zβ; simp only [Bool.and_eq_true, Bool.or_eq_true, Bool.true_and, Bool.not_eq_true', Bool.or_eq_false_iff, Bool.and_eq_false_iff, beq_eq_false_iff_ne, ne_eq, beq_iff_eq, decide_eq_true_eq, decide_eq_false_iff_not, bne_iff_ne] at zz; omega))).2.1) (bkeeps (bstep hb3 zc.below) _ _ (hc20 k (by first | omega | (have zz := zβ; simp only [Bool.and_eq_true, Bool.or_eq_true, Bool.true_and, Bool.not_eq_true', Bool.or_eq_false_iff, Bool.and_eq_false_iff, beq_eq_false_iff_ne, ne_eq, beq_iff_eq, decide_eq_true_eq, decide_eq_false_iff_not, bne_iff_ne] at zz; omega))).2.2.1) ⟨_, rfl, Below.refl _ _, optDef zβ rfl⟩
          refine ⟨⟨(true && !((lget l1 k).neg != (lget l2 k).neg)), .no (c := ((lget l1 k).neg != (lget l2 k).neg)) (d := true) rfl (fun v w h => h), fun h w => optUndef h, fun zβ za zw zc => ?_⟩, ?_⟩
          · exact wp_call (by kernel_rfl) rfl (hv2 ((show za.eval (.tmp 32) = za.tmps.getD 32 undef from rfl).trans (optVal (zc.dep 16 32 (by kernel_rfl)) rfl zβ)) ((show za.eval (.tmp 37) = za.tmps.getD 37 undef from rfl).trans (optVal (zc.dep 21 37 (by kernel_rfl)) rfl zβ))) (ret_of (rsame_any _ _ _ _ _ (IsT.below (bstep hb3 zc.below) (InT.isT (hc12 k (by first | omega | (have zz := zβ; simp only [Bool.and_eq_true, Bool.or_eq_true, Bool.true_and, Bool.not_eq_true', Bool.or_eq_false_iff, Bool.and_eq_false_iff, beq_eq_false_iff_ne, ne_eq, beq_iff_eq, decide_eq_true_eq, decide_eq_false_iff_not, bne_iff_ne] at zz; omega))).2.2.2.2.2.1)) (IsT.below (bstep hb3 zc.below) (InT.isT (hc20 k (by first | omega | (have zz := zβ; simp only [Bool.and_eq_true, Bool.or_eq_true, Bool.true_and, Bool.not_eq_true', Bool.or_eq_false_iff, Bool.and_eq_false_iff, beq_eq_false_iff_ne, ne_eq, beq_iff_eq, decide_eq_true_eq, decide_eq_false_iff_not, bne_iff_ne] at zz; omega))).2.2.2.2.2.1)))) (fun v w' h => ⟨v, rfl, h.2, optDef zβ h.1⟩)
          refine ⟨⟨(true && !((lget l1 k).neg != (lget l2 k).neg)), .no (c := ((lget l1 k).neg != (lget l2 k).neg)) (d := true) rfl (fun v w h => h), fun h w => optUndef h, fun zβ za zw zc => ?_⟩, ?_⟩
          · exact wp_not rfl ((show za.eval (.tmp 38) = za.tmps.getD 38 undef from rfl).trans (optVal (zc.dep 22 38 (by kernel_rfl)) rfl zβ)) ⟨_, rfl, Below.refl _ _, optDef zβ rfl⟩
          refine ⟨⟨true, .none rfl, fun h w => optUndef h, fun zβ za zw zc => ?_⟩, ?_⟩
          · exact wp_or rfl ((show za.eval (.tmp 27) = za.tmps.getD 27 undef from rfl).trans (optVal (zc.dep 11 27 (by kernel_rfl)) rfl rfl)) (fun hp => ((show za.eval (.tmp 39) = za.tmps.getD 39 undef from rfl).trans (optVal (zc.dep 23 39 (by kernel_rfl)) rfl (bMkN zβ hp)))) ⟨_, rfl, Below.refl _ _, optDef zβ rfl⟩
          refine ⟨⟨true, .none rfl, fun h w => optUndef h, fun zβ za zw zc => ?_⟩, ?_⟩
          · exact wp_move rfl ((show za.eval (.tmp 40) = za.tmps.getD 40 undef from rfl).trans (optVal (zc.dep 24 40 (by kernel_rfl)) rfl rfl)) ⟨_, rfl, Below.refl _ _, optDef zβ rfl⟩
          refine ⟨⟨(true && !(((lget l1 k).neg != (lget l2 k).neg) || (!(T.same (lget l1 k).l (lget l2 k).l)))), .no (c := (((lget l1 k).neg != (lget l2 k).neg) || (!(T.same (lget l1 k).l (lget l2 k).l)))) (d := true) rfl (fun v w h => h), fun h w => optUndef h, fun zβ za zw zc => ?_⟩, ?_⟩
          · exact wp_move rfl (zc.kn.ev rfl) ⟨_, rfl, Below.refl _ _, optDef zβ rfl⟩
          refine ⟨⟨(true && !(((lget l1 k).neg != (lget l2 k).neg) || (!(T.same (lget l1 k).l (lget l2 k).l)))), .no (c := (((lget l1 k).neg != (lget l2 k).neg) || (!(T.same (lget l1 k).l (lget l2 k).l)))) (d := true) rfl (fun v w h => h), fun h w => optUndef h, fun zβ za zw zc => ?_⟩, ?_⟩
          · exact wp_move rfl (zc.kn.ev rfl) ⟨_, rfl, Below.refl _ _, optDef zβ rfl⟩
          refine ⟨⟨(true && !(((lget l1 k).neg != (lget l2 k).neg) || (!(T.same (lget l1 k).l (lget l2 k).l)))), .no (c := (((lget l1 k).neg != (lget l2 k).neg) || (!(T.same (lget l1 k).l (lget l2 k).l)))) (d := true) rfl (fun v w h => h), fun h w => optUndef h, fun zβ za zw zc => ?_⟩, ?_⟩
          · exact ix_42 (k := k) rfl ((show za.eval (.tmp 42) = za.tmps.getD 42 undef from rfl).trans (optVal (zc.dep 26 42 (by kernel_rfl)) rfl zβ)) (ha11 k (by first | omega | (have zz := zβ; simp only [Bool.and_eq_true, Bool.or_eq_true, Bool.true_and, Bool.not_eq_true', Bool.or_eq_false_iff, Bool.and_eq_false_iff, beq_eq_false_iff_ne, ne_eq, beq_iff_eq, decide_eq_true_eq, decide_eq_false_iff_not, bne_iff_ne] at zz; omega))) ((show za.eval (.tmp 43) = za.tmps.getD 43 undef from rfl).trans (optVal (zc.dep 27 43 (by kernel_rfl)) rfl zβ)) (by first | omega | (have zz := zβ; simp only [Bool.and_eq_true, Bool.or_eq_true, Bool.true_and, Bool.not_eq_true', Bool.or_eq_false_iff, Bool.and_eq_false_iff, beq_eq_false_iff_ne, ne_eq, beq_iff_eq, decide_eq_true_eq, decide_eq_false_iff_not, bne_iff_ne] at zz; omega)) ⟨_, rfl, Below.refl _ _, optDef zβ rfl⟩
          refine ⟨⟨(true && !(((lget l1 k).neg != (lget l2 k).neg) || (!(T.same (lget l1 k).l (lget l2 k).l)))), .no (c := (((lget l1 k).neg != (lget l2 k).neg) || (!(T.same (lget l1 k).l (lget l2 k).l)))) (d := true) rfl (fun v w h => h), fun h w => optUndef h, fun zβ za zw zc => ?_⟩, ?_⟩
          · exact fld_44_2 rfl ((show za.eval (.tmp 44) = za.tmps.getD 44 undef from rfl).trans (optVal (zc.dep 28 44 (by kernel_rfl)) rfl zβ)) ⟨_, rfl, Below.refl _ _, optDef zβ rfl⟩
          refine ⟨⟨(true && !(((lget l1 k).neg != (lget l2 k).neg) || (!(T.same (lget l1 k).l (lget l2 k).l)))), .no (c := (((lget l1 k).neg != (lget l2 k).neg) || (!(T.same (lget l1 k).l (lget l2 k).l)))) (d := true) rfl (fun v w h => h), fun h w => optUndef h, fun zβ za zw zc => ?_⟩, ?_⟩
          · exact ld_32 rfl ((show za.eval (.tmp 45) = za.tmps.getD 45 undef from rfl).trans (optVal (zc.dep 29 45 (by kernel_rfl)) rfl zβ)) (bkeeps (bstep hb3 zc.below) _ _ (hc12 k (by first | omega | (have zz := zβ; simp only [Bool.and_eq_true, Bool.or_eq_true, Bool.true_and, Bool.not_eq_true', Bool.or_eq_false_iff, Bool.and_eq_false_iff, beq_eq_false_iff_ne, ne_eq, beq_iff_eq, decide_eq_true_eq, decide_eq_false_iff_not, bne_iff_ne] at zz; omega))).2.2.2.1) (bkeeps (bstep hb3 zc.below) _ _ (hc12 k (by first | omega | (have zz := zβ; simp only [Bool.and_eq_true, Bool.or_eq_true, Bool.true_and, Bool.not_eq_true', Bool.or_eq_false_iff, Bool.and_eq_false_iff, beq_eq_false_iff_ne, ne_eq, beq_iff_eq, decide_eq_true_eq, decide_eq_false_iff_not, bne_iff_ne] at zz; omega))).2.2.2.2.1) ⟨_, rfl, Below.refl _ _, optDef zβ rfl⟩
          refine ⟨⟨(true && !(((lget l1 k).neg != (lget l2 k).neg) || (!(T.same (lget l1 k).l (lget l2 k).l)))), .no (c := (((lget l1 k).neg != (lget l2 k).neg) || (!(T.same (lget l1 k).l (lget l2 k).l)))) (d := true) rfl (fun v w h => h), fun h w => optUndef h, fun zβ za zw zc => ?_⟩, ?_⟩
          · exact wp_move rfl (zc.kn.ev rfl) ⟨_, rfl, Below.refl _ _, optDef zβ rfl⟩
          refine ⟨⟨(true && !(((lget l1 k).neg != (lget l2 k).neg) || (!(T.same (lget l1 k).l (lget l2 k).l)))), .no (c := (((lget l1 k).neg != (lget l2 k).neg) || (!(T.same (lget l1 k).l (lget l2 k).l)))) (d := true) rfl (fun v w h => h), fun h w => optUndef h, fun zβ za zw zc => ?_⟩, ?_⟩
          · exact wp_move rfl (zc.kn.ev rfl) ⟨_, rfl, Below.refl _ _, optDef zβ rfl⟩
          refine ⟨⟨(true && !(((lget l1 k).neg != (lget l2 k).neg) || (!(T.same (lget l1 k).l (lget l2 k).l)))), .no (c := (((lget l1 k).neg != (lget l2 k).neg) || (!(T.same (lget l1 k).l (lget l2 k).l)))) (d := true) rfl (fun v w h => h), fun h w => optUndef h, fun zβ za zw zc => ?_⟩, ?_⟩
          · exact ix_42 (k := k) rfl ((show za.eval (.tmp 47) = za.tmps.getD 47 undef from rfl).trans (optVal (zc.dep 31 47 (by kernel_rfl)) rfl zβ)) (ha19 k (by first | omega | (have zz := zβ; simp only [Bool.and_eq_true, Bool.or_eq_true, Bool.true_and, Bool.not_eq_true', Bool.or_eq_false_iff, Bool.and_eq_false_iff, beq_eq_false_iff_ne, ne_eq, beq_iff_eq, decide_eq_true_eq, decide_eq_false_iff_not, bne_iff_ne] at zz; omega))) ((show za.eval (.tmp 48) = za.tmps.getD 48 undef from rfl).trans (optVal (zc.dep 32 48 (by kernel_rfl)) rfl zβ)) (by first | omega | (have zz := zβ; simp only [Bool.and_eq_true, Bool.or_eq_true, Bool.true_and, Bool.not_eq_true', Bool.or_eq_false_iff, Bool.and_eq_false_iff, beq_eq_false_iff_ne, ne_eq, beq_iff_eq, decide_eq_true_eq, decide_eq_false_iff_not, bne_iff_ne] at zz; omega)) ⟨_, rfl, Below.refl _ _, optDef zβ rfl⟩
          refine ⟨⟨(true && !(((lget l1 k).neg != (lget l2 k).neg) || (!(T.same (lget l1 k).l (lget l2 k).l)))), .no (c := (((lget l1 k).neg != (lget l2 k).neg) || (!(T.same (lget l1 k).l (lget l2 k).l)))) (d := true) rfl (fun v w h => h), fun h w => optUndef h, fun zβ za zw zc => ?_⟩, ?_⟩
          · exact fld_44_2 rfl ((show za.eval (.tmp 49) = za.tmps.getD 49 undef from rfl).trans (optVal (zc.dep 33 49 (by kernel_rfl)) rfl zβ)) ⟨_, rfl, Below.refl _ _, optDef zβ rfl⟩
          refine ⟨⟨(true && !(((lget l1 k).neg != (lget l2 k).neg) || (!(T.same (lget l1 k).l (lget l2 k).l)))), .no (c := (((lget l1 k).neg != (lget l2 k).neg) || (!(T.same (lget l1 k).l (lget l2 k).l)))) (d := true) rfl (fun v w h => h), fun h w => optUndef h, fun zβ za zw zc => ?_⟩, ?_⟩
          · exact ld_32 rfl ((show za.eval (.tmp 50) = za.tmps.getD 50 undef from rfl).trans (optVal (zc.dep 34 50 (by kernel_rfl)) rfl zβ)) (bkeeps (bstep hb3 zc.below) _ _ (hc20 k (by first | omega | (have zz := zβ; simp only [Bool.and_eq_true, Bool.or_eq_true, Bool.true_and, Bool.not_eq_true', Bool.or_eq_false_iff, Bool.and_eq_false_iff, beq_eq_false_iff_ne, ne_eq, beq_iff_eq, decide_eq_true_eq, decide_eq_false_iff_not, bne_iff_ne] at zz; omega))).2.2.2.1) (bkeeps (bstep hb3 zc.below) _ _ (hc20 k (by first | omega | (have zz := zβ; simp only [Bool.and_eq_true, Bool.or_eq_true, Bool.true_and, Bool.not_eq_true', Bool.or_eq_false_iff, Bool.and_eq_false_iff, beq_eq_false_iff_ne, ne_eq, beq_iff_eq, decide_eq_true_eq, decide_eq_false_iff_not, bne_iff_ne] at zz; omega))).2.2.2.2.1) ⟨_, rfl, Below.refl _ _, optDef zβ rfl⟩
          refine ⟨⟨(true && !(((lget l1 k).neg != (lget l2 k).neg) || (!(T.same (lget l1 k).l (lget l2 k).l)))), .no (c := (((lget l1 k).neg != (lget l2 k).neg) || (!(T.same (lget l1 k).l (lget l2 k).l)))) (d := true) rfl (fun v w h => h), fun h w => optUndef h, fun zβ za zw zc => ?_⟩, ?_⟩
          · exact wp_call (by kernel_rfl) rfl (hv2 ((show za.eval (.tmp 46) = za.tmps.getD 46 undef from rfl).trans (optVal (zc.dep 30 46 (by kernel_rfl)) rfl zβ)) ((show za.eval (.tmp 51) = za.tmps.getD 51 undef from rfl).trans (optVal (zc.dep 35 51 (by kernel_rfl)) rfl zβ))) (ret_of (rsame_any _ _ _ _ _ (IsT.below (bstep hb3 zc.below) (InT.isT (hc12 k (by first | omega | (have zz := zβ; simp only [Bool.and_eq_true, Bool.or_eq_true, Bool.true_and, Bool.not_eq_true', Bool.or_eq_false_iff, Bool.and_eq_false_iff, beq_eq_false_iff_ne, ne_eq, beq_iff_eq, decide_eq_true_eq, decide_eq_false_iff_not, bne_iff_ne] at zz; omega))).2.2.2.2.2.2)) (IsT.below (bstep hb3 zc.below) (InT.isT (hc20 k (by first | omega | (have zz := zβ; simp only [Bool.and_eq_true, Bool.or_eq_true, Bool.true_and, Bool.not_eq_true', Bool.or_eq_false_iff, Bool.and_eq_false_iff, beq_eq_false_iff_ne, ne_eq, beq_iff_eq, decide_eq_true_eq, decide_eq_false_iff_not, bne_iff_ne] at zz; omega))).2.2.2.2.2.2)))) (fun v w' h => ⟨v, rfl, h.2, optDef zβ h.1⟩)
          refine ⟨⟨(true && !(((lget l1 k).neg != (lget l2 k).neg) || (!(T.same (lget l1 k).l (lget l2 k).l)))), .no (c := (((lget l1 k).neg != (lget l2 k).neg) || (!(T.same (lget l1 k).l (lget l2 k).l)))) (d := true) rfl (fun v w h => h), fun h w => optUndef h, fun zβ za zw zc => ?_⟩, ?_⟩
          · exact wp_not rfl ((show za.eval (.tmp 52) = za.tmps.getD 52 undef from rfl).trans (optVal (zc.dep 36 52 (by kernel_rfl)) rfl zβ)) ⟨_, rfl, Below.refl _ _, optDef zβ rfl⟩
          refine ⟨⟨true, .none rfl, fun h w => optUndef h, fun zβ za zw zc => ?_⟩, ?_⟩
          · exact wp_or rfl ((show za.eval (.tmp 41) = za.tmps.getD 41 undef from rfl).trans (optVal (zc.dep 25 41 (by kernel_rfl)) rfl rfl)) (fun hp => ((show za.eval (.tmp 53) = za.tmps.getD 53 undef from rfl).trans (optVal (zc.dep 37 53 (by kernel_rfl)) rfl (bMkN zβ hp)))) ⟨_, rfl, Below.refl _ _, optDef zβ rfl⟩
          exact trivial
        · intro za w21 zh hb22 zu
          have zh := zh.cons (d := 54) (v := .bool (((((lget l1 k).neg != (lget l2 k).neg) || (!(T.same (lget l1 k).l (lget l2 k).l))) || (!(T.same (lget l1 k).r (lget l2 k).r))))) (optVal (zu 38 54 (by kernel_rfl)) rfl rfl)
          clear zu
          refine (show WE _ [(0, .slice pa l1.length ca), (1, .slice pb l2.length cb), (5, .int .i64 (((k : Nat) : Int))), (10, .bool (((((l1.length : Nat) : Int) : Int) != (((l2.length : Nat) : Int) : Int)))), (12, .int .i64 (((l1.length : Nat) : Int))), (13, .int .i64 (((k : Nat) : Int))), (14, .bool ((decide ((((k : Nat) : Int) : Int) < (((l1.length : Nat) : Int) : Int))))), (54, .bool (((((lget l1 k).neg != (lget l2 k).neg) || (!(T.same (lget l1 k).l (lget l2 k).l))) || (!(T.same (lget l1 k).r (lget l2 k).r)))))] w21 _ .normal from ?_) za (zh.sub ⟨rfl, rfl, rfl, rfl, rfl, rfl, rfl, rfl, trivial⟩)
          refine WE.next ?_
          refine WC.cond rfl (fun h23 => ?_) (fun h23 => ?_)
          · have h23 : (((lget l1 k).neg ≠ (lget l2 k).neg) ∨ (¬ ((T.same (lget l1 k).l (lget l2 k).l) = true))) ∨ (¬ ((T.same (lget l1 k).r (lget l2 k).r) = true)) := by simpa using h23
            refine WC.seq ?_
            refine WC.region ?_
            refine WL.val (.bool false) rfl rfl rfl (fun za zC zh zk => wp_assign rfl (zh.ev rfl) zk) ?_
            refine WL.nil (WE.sub (K' := [(0, .slice pa l1.length ca), (1, .slice pb l2.length cb), (4, .bool false), (5, .int .i64 (((k : Nat) : Int))), (10, .bool (((((l1.length : Nat) : Int) : Int) != (((l2.length : Nat) : Int) : Int)))), (12, .int .i64 (((l1.length : Nat) : Int))), (13, .int .i64 (((k : Nat) : Int))), (14, .bool ((decide ((((k : Nat) : Int) : Int) < (((l1.length : Nat) : Int) : Int))))), (54, .bool (((((lget l1 k).neg != (lget l2 k).neg) || (!(T.same (lget l1 k).l (lget l2 k).l))) || (!(T.same (lget l1 k).r (lget l2 k).r)))))]) ⟨rfl, rfl, rfl, rfl, rfl, rfl, rfl, rfl, rfl, trivial⟩ ?_)
            refine WE.next ?_
            refine WC.ret ?_
            refine WE.blockRet ?_
            refine WE.thenRet ?_
            refine WE.thenRet ?_
            refine WE.blockRet ?_
            refine WE.thenRet ?_
            refine WE.ret1 rfl rfl ?_
            have hb24 : Below w.heap.size w w21 := (bstep hb3 hb22)
            exact ⟨_, rfl, congrArg Value.bool (Eq.symm (clSame_at (k := k) (fun e => li_no e (by simpa using h23)))), hb24⟩
          · have h23 : ¬ ((((lget l1 k).neg ≠ (lget l2 k).neg) ∨ (¬ ((T.same (lget l1 k).l (lget l2 k).l) = true))) ∨ (¬ ((T.same (lget l1 k).r (lget l2 k).r) = true))) := by simpa using h23
            refine WC.skip ?_
            refine WE.blockNormal ?_
            refine WE.next ?_
            refine WC.region ?_
            refine WL.val (.int .i64 ((((k + 1) : Nat) : Int))) rfl rfl rfl (fun za zC zh zk => addb_3 rfl (zh.ev rfl) (zh.ev rfl) (wrap_eq (by omega) (by omega) (by omega)) zk) ?_
            refine WL.val (.int .i64 ((((k + 1) : Nat) : Int))) rfl rfl rfl (fun za zC zh zk => wp_move rfl (zh.ev rfl) zk) ?_
            refine WL.nil (WE.sub (K' := [(0, .slice pa l1.length ca), (1, .slice pb l2.length cb), (5, .int .i64 (((k : Nat) : Int))), (10, .bool (((((l1.length : Nat) : Int) : Int) != (((l2.length : Nat) : Int) : Int)))), (12, .int .i64 (((l1.length : Nat) : Int))), (13, .int .i64 ((((k + 1) : Nat) : Int))), (14, .bool ((decide ((((k : Nat) : Int) : Int) < (((l1.length : Nat) : Int) : Int))))), (54, .bool (((((lget l1 k).neg != (lget l2 k).neg) || (!(T.same (lget l1 k).l (lget l2 k).l))) || (!(T.same (lget l1 k).r (lget l2 k).r)))))]) ⟨rfl, rfl, rfl, rfl, rfl, rfl, rfl, rfl, trivial⟩ ?_)
            refine WE.round (k + 1) ⟨rfl, rfl, rfl, rfl, rfl, trivial⟩ ?_ ?_
            · have hb25 : Below w.heap.size w w21 := (bstep hb3 hb22)
              exact ⟨by omega, hE.step (li_yes (by simpa [and_assoc] using h23)), hb25⟩
            · omega
      · have h4 : ¬ ((((k : Nat) : Int) : Int) < (((l1.length : Nat) : Int) : Int)) := by simpa using h4
        refine WC.exit ?_
        refine WE.thenExit ?_
        refine WE.thenExit ?_
        refine WE.blockIs rfl ?_
        refine WE.next ?_
        refine WC.seq ?_
        refine WC.region ?_
        refine WL.val (.bool true) rfl rfl rfl (fun za zC zh zk => wp_assign rfl (zh.ev rfl) zk) ?_
        refine WL.nil (WE.sub (K' := [(0, .slice pa l1.length ca), (1, .slice pb l2.length cb), (4, .bool true), (10, .bool (((((l1.length : Nat) : Int) : Int) != (((l2.length : Nat) : Int) : Int)))), (12, .int .i64 (((l1.length : Nat) : Int))), (13, .int .i64 (((k : Nat) : Int))), (14, .bool ((decide ((((k : Nat) : Int) : Int) < (((l1.length : Nat) : Int) : Int)))))]) ⟨rfl, rfl, rfl, rfl, rfl, rfl, rfl, trivial⟩ ?_)
        refine WE.next ?_
        refine WC.ret ?_
        refine WE.ret1 rfl rfl ?_
        exact ⟨_, rfl, congrArg Value.bool (Eq.symm (clSame_all hlen hE (by omega))), hb3⟩

end Go.Proofs.Ytgechlgdnnpoeaa
