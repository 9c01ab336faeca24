/- Regions in whatever order, in which operations that change the memory may be guarded: one behind the other, each with what it yields. -/
import Derived.Test.YtgechlgdnnpoeaaNBb
import Derived.Test.YtgechlgdnnpoeaaNBf
import Derived.Test.YtgechlgdnnpoeaaNBa
import Derived.WalkKit
import Derived.Test.YtgechlgdnnpoeaaNBe
import Derived.Test.YtgechlgdnnpoeaaNBd
import Derived.Test.YtgechlgdnnpoeaaNBc

/- Literals, clauses by a substitution: the program and the document; clauses compared. -/
namespace Go.Proofs.Ytgechlgdnnpoeaa
open Go.RowKit Go

def Li.app (s : List Bd) (x : Li) : Li := ⟨x.neg, x.l.app s, x.r.app s⟩
instance : DecidableEq Li := fun x y => decidable_of_iff (x.neg = y.neg ∧ x.l = y.l ∧ x.r = y.r) (by cases x; cases y; simp)
def clSame (a b : List Li) : Bool := decide (a = b)
theorem eltL.below' {S : Nat → Prop} {w w' : World} {x : Li} {cs : List Value} (hb : Below w.heap.size w w') (h : eltL.In S w x cs) : eltL.In S w' x cs := Elt.below h hb

set_option maxRecDepth 100000 in
theorem lit_any (s : List Bd) (x : Li) (w : World) (v : Value) (sa : Option Addr) (sc : Nat) (hz1 : x.l.size ≤ 4294967296) (hz2 : x.r.size ≤ 4294967296) (hv : IsLi w x v) (hs : IsSub w s sa sc) : Calls Try.prog 29 #[.slice sa s.length sc, v] w (Ret fun v' w' => NewL w w' (x.app s) v' ∧ Below w.heap.size w w') := by
  obtain ⟨a1, a2, c1, c2, rfl, hl, hr⟩ := hv.form
  refine Calls.walk (l := [.slice sa s.length sc, .agg #[.bool x.neg, .int .i64 x.l.f, .slice a1 x.l.args.length c1, .int .i64 x.r.f, .slice a2 x.r.args.length c2]]) Try.func29 rfl (by kernel_rfl) ?_
  refine WC.sub (K' := [(0, .slice sa s.length sc), (1, .agg #[.bool x.neg, .int .i64 x.l.f, .slice a1 x.l.args.length c1, .int .i64 x.r.f, .slice a2 x.r.args.length c2])]) ⟨rfl, rfl, trivial⟩ ?_
  refine WC.seq ?_
  refine WC.region ?_
  refine WL.step (post := NewBlk w 44 #[.bool x.neg, .int .i64 x.l.f, .slice a1 x.l.args.length c1, .int .i64 x.r.f, .slice a2 x.r.args.length c2]) rfl rfl rfl (fun za zC zh zk => box_44 rfl (zh.ev rfl) (zk _ _ (newBlk _ _ _))) ?_
  rintro _ w1 ⟨g2, rfl, hg3, hB4, hb5, hz6⟩
  have hl7 : w.heap.size ≤ g2 := by omega
  refine WL.step (post := NewBlk w1 44 #[.bool false, .int .i64 0, .slice none 0 0, .int .i64 0, .slice none 0 0]) rfl rfl rfl (fun za zC zh zk => alloc_44 rfl (zk _ _ (newBlk _ _ _))) ?_
  rintro _ w8 ⟨g9, rfl, hg10, hB11, hb12, hz13⟩
  have hl14 : g2 < g9 := by have z1 := hB4.lt; omega
  have hl15 : w.heap.size ≤ g9 := by have z2 := (hb5).size; omega
  refine WL.nil (WE.sub (K' := [(0, .slice sa s.length sc), (1, .agg #[.bool x.neg, .int .i64 x.l.f, .slice a1 x.l.args.length c1, .int .i64 x.r.f, .slice a2 x.r.args.length c2]), (3, .pointer (some ⟨g2, 0, none⟩)), (4, .pointer (some ⟨g9, 0, none⟩))]) ⟨rfl, rfl, rfl, rfl, trivial⟩ ?_)
  refine WE.next ?_
  refine WC.seq ?_
  have hB16 := hB4.below hb12
  have hb17 : Below w.heap.size w w8 := (bstep hb5 hb12)
  have hSlt : ∀ b, (fun b => b = g9) b → b < w8.heap.size := fun b e => e ▸ hB11.lt
  have hgl : g9 < w8.heap.size := hB11.lt
  refine WC.tail1 (S := ((fun b => b = g9))) [(true, .val (.pointer (some ⟨g2, 0, none⟩))), (true, .val (.bool x.neg)), (true, .val (.slice sa s.length sc)), (true, .val (.pointer (some ⟨g2, 1, none⟩))), (true, .val (.agg #[.int .i64 x.l.f, .slice a1 x.l.args.length c1])), (true, .mem (fun v w' => NewT w8 w' ((x.app s).l) v) (fun v w w' hc h => InT.chg h hc (fun b hb hs => by have z := hSlt b hs; omega))), (true, .val (.slice sa s.length sc)), (true, .val (.pointer (some ⟨g2, 3, none⟩))), (true, .val (.agg #[.int .i64 x.r.f, .slice a2 x.r.args.length c2])), (true, .mem (fun v w' => NewT w8 w' ((x.app s).r) v) (fun v w w' hc h => InT.chg h hc (fun b hb hs => by have z := hSlt b hs; omega))), (true, .mem (fun v w' => NewL w8 w' ((x.app s)) v) (fun v w w' hc h => NewL.chg h hc (fun b hb hs => by have z := hSlt b hs; omega))), (true, .val undef)] [(0, .slice sa s.length sc), (1, .agg #[.bool x.neg, .int .i64 x.l.f, .slice a1 x.l.args.length c1, .int .i64 x.r.f, .slice a2 x.r.args.length c2]), (3, .pointer (some ⟨g2, 0, none⟩)), (4, .pointer (some ⟨g9, 0, none⟩))] 11 (fun wz => LiBox w8 wz g9 44 ((x.app s))) (fun w w' hb h => h.below hb) ⟨rfl, rfl, rfl, rfl, trivial⟩ (by kernel_rfl) (by kernel_rfl) (by kernel_rfl) (by kernel_rfl) ?_ ?_
  · refine ⟨.inl ⟨rfl, true, .none rfl, (fun gg b h => by cases h), fun h w => optUndef h, fun zβ za zw zc => ?_⟩, ?_⟩
    · exact fld_44_0 rfl (zc.kn.ev rfl) ⟨_, rfl, Below.refl _ _, optDef zβ rfl⟩
    refine ⟨.inl ⟨rfl, true, .none rfl, (fun gg b h => by cases h), fun h w => optUndef h, fun zβ za zw zc => ?_⟩, ?_⟩
    · exact ld_4 rfl ((show za.eval (.tmp 5) = za.tmps.getD 5 undef from rfl).trans (optSVal (zc.dep 0 5 (by kernel_rfl) (by decide)) rfl rfl)) (bkeeps (zc.early (by kernel_rfl)) _ _ ((hB16.cell 0).trans rfl)) ⟨_, rfl, Below.refl _ _, optDef zβ rfl⟩
    refine ⟨.inl ⟨rfl, true, .none rfl, (fun gg b h => by cases h), fun h w => optUndef h, fun zβ za zw zc => ?_⟩, ?_⟩
    · exact wp_move rfl (zc.kn.ev rfl) ⟨_, rfl, Below.refl _ _, optDef zβ rfl⟩
    refine ⟨.inl ⟨rfl, true, .none rfl, (fun gg b h => by cases h), fun h w => optUndef h, fun zβ za zw zc => ?_⟩, ?_⟩
    · exact fld_44_1 rfl (zc.kn.ev rfl) ⟨_, rfl, Below.refl _ _, optDef zβ rfl⟩
    refine ⟨.inl ⟨rfl, true, .none rfl, (fun gg b h => by cases h), fun h w => optUndef h, fun zβ za zw zc => ?_⟩, ?_⟩
    · exact ld_32 rfl ((show za.eval (.tmp 8) = za.tmps.getD 8 undef from rfl).trans (optSVal (zc.dep 3 8 (by kernel_rfl) (by decide)) rfl rfl)) (bkeeps (zc.early (by kernel_rfl)) _ _ ((hB16.cell 1).trans rfl)) (bkeeps (zc.early (by kernel_rfl)) _ _ ((hB16.cell 2).trans rfl)) ⟨_, rfl, Below.refl _ _, optDef zβ rfl⟩
    refine ⟨.inl ⟨rfl, true, .none rfl, (fun gg b h => by cases h), fun h w => optUndef h, fun zβ za zw zc => ?_⟩, ?_⟩
    · exact wp_call (by kernel_rfl) rfl (hv2 ((show za.eval (.tmp 7) = za.tmps.getD 7 undef from rfl).trans (optSVal (zc.dep 2 7 (by kernel_rfl) (by decide)) rfl rfl)) ((show za.eval (.tmp 9) = za.tmps.getD 9 undef from rfl).trans (optSVal (zc.dep 4 9 (by kernel_rfl) (by decide)) rfl rfl))) (apply_any s x.l _ _ _ _ hz1 (IsT.below (bstep hb17 (zc.early (by kernel_rfl))) hl) (hs.below (bstep hb17 (zc.early (by kernel_rfl))))) (fun v w' h => ⟨v, rfl, h.2, optDef zβ (InT.mono (fun b hb _ => Nat.le_trans (zc.early (by kernel_rfl)).size hb) h.1)⟩)
    refine ⟨.inl ⟨rfl, true, .none rfl, (fun gg b h => by cases h), fun h w => optUndef h, fun zβ za zw zc => ?_⟩, ?_⟩
    · exact wp_move rfl (zc.kn.ev rfl) ⟨_, rfl, Below.refl _ _, optDef zβ rfl⟩
    refine ⟨.inl ⟨rfl, true, .none rfl, (fun gg b h => by cases h), fun h w => optUndef h, fun zβ za zw zc => ?_⟩, ?_⟩
    · exact fld_44_2 rfl (zc.kn.ev rfl) ⟨_, rfl, Below.refl _ _, optDef zβ rfl⟩
    refine ⟨.inl ⟨rfl, true, .none rfl, (fun gg b h => by cases h), fun h w => optUndef h, fun zβ za zw zc => ?_⟩, ?_⟩
    · exact ld_32 rfl ((show za.eval (.tmp 12) = za.tmps.getD 12 undef from rfl).trans (optSVal (zc.dep 7 12 (by kernel_rfl) (by decide)) rfl rfl)) (bkeeps (zc.early (by kernel_rfl)) _ _ ((hB16.cell 3).trans rfl)) (bkeeps (zc.early (by kernel_rfl)) _ _ ((hB16.cell 4).trans rfl)) ⟨_, rfl, Below.refl _ _, optDef zβ rfl⟩
    refine ⟨.inl ⟨rfl, true, .none rfl, (fun gg b h => by cases h), fun h w => optUndef h, fun zβ za zw zc => ?_⟩, ?_⟩
    · exact wp_call (by kernel_rfl) rfl (hv2 ((show za.eval (.tmp 11) = za.tmps.getD 11 undef from rfl).trans (optSVal (zc.dep 6 11 (by kernel_rfl) (by decide)) rfl rfl)) ((show za.eval (.tmp 13) = za.tmps.getD 13 undef from rfl).trans (optSVal (zc.dep 8 13 (by kernel_rfl) (by decide)) rfl rfl))) (apply_any s x.r _ _ _ _ hz2 (IsT.below (bstep hb17 (zc.early (by kernel_rfl))) hr) (hs.below (bstep hb17 (zc.early (by kernel_rfl))))) (fun v w' h => ⟨v, rfl, h.2, optDef zβ (InT.mono (fun b hb _ => Nat.le_trans (zc.early (by kernel_rfl)).size hb) h.1)⟩)
    refine ⟨.inl ⟨rfl, true, .none rfl, (fun gg b h => by cases h), fun h w => optUndef h, fun zβ za zw zc => ?_⟩, ?_⟩
    · have z1 := (optSMem (zc.dep 5 10 (by kernel_rfl) (by decide)) rfl rfl)
      obtain ⟨_, a1, c1, e1, _⟩ := z1.form
      rw [e1] at z1
      have z2 := (optSMem (zc.dep 9 14 (by kernel_rfl) (by decide)) rfl rfl)
      obtain ⟨_, a2, c2, e2, _⟩ := z2.form
      rw [e2] at z2
      exact build_44_0_1_2 rfl ((show za.eval (.tmp 6) = za.tmps.getD 6 undef from rfl).trans (optSVal (zc.dep 1 6 (by kernel_rfl) (by decide)) rfl rfl)) ((show za.eval (.tmp 10) = za.tmps.getD 10 undef from rfl).trans e1) ((show za.eval (.tmp 14) = za.tmps.getD 14 undef from rfl).trans e2) ⟨_, rfl, Below.refl _ _, optDef zβ (newL_mk (x := (x.app s)) z1 z2)⟩
    refine ⟨.inr ⟨rfl, rfl, fun za zw zc => ?_⟩, ?_⟩
    · have zv := (optSMem (zc.dep 10 15 (by kernel_rfl) (by decide)) rfl rfl)
      obtain ⟨a1, a2, c1, c2, e1⟩ := zv.parts
      rw [e1] at zv
      exact st_44 rfl (zc.kn.ev rfl) ((show za.eval (.tmp 15) = za.tmps.getD 15 undef from rfl).trans e1) rfl rfl rfl rfl rfl (hB11.below zc.below) (by decide) (fun v => ⟨v, rfl, ⟨a1, a2, c1, c2, ((((hB11.below zc.below).set_ 0 _).set_ 1 _).set_ 2 _ |>.set_ 3 _).set_ 4 _, zv.chg (S := fun b => b = g9) (.ofUpd (((((Upd.at_ _ _ _ _).trans (Upd.at_ _ _ _ _)).trans (Upd.at_ _ _ _ _)).trans (Upd.at_ _ _ _ _)).trans (Upd.at_ _ _ _ _)) rfl) (fun b hb e => by (try dsimp only at *); omega)⟩, .ofUpd (((((Upd.at_ _ _ _ _).trans (Upd.at_ _ _ _ _)).trans (Upd.at_ _ _ _ _)).trans (Upd.at_ _ _ _ _)).trans (Upd.at_ _ _ _ _)) rfl⟩)
    exact trivial
  · intro za w18 zh hG19 hc20 zu
    have hb21 := chg_below hb17 hc20 (fun b hb => (by (try dsimp only at *); omega))
    have hB22 := chg_blk hB16 hc20 (by (try dsimp only at *); omega)
    obtain ⟨a23, a24, c25, c26, hB27, hn28⟩ := hG19
    clear zu
    refine (show WE _ [(0, .slice sa s.length sc), (1, .agg #[.bool x.neg, .int .i64 x.l.f, .slice a1 x.l.args.length c1, .int .i64 x.r.f, .slice a2 x.r.args.length c2]), (3, .pointer (some ⟨g2, 0, none⟩)), (4, .pointer (some ⟨g9, 0, none⟩))] w18 _ .normal from ?_) za (zh.sub ⟨rfl, rfl, rfl, rfl, trivial⟩)
    refine WE.next ?_
    refine WC.ret ?_
    refine WE.retAny (v := .agg #[.bool ((x.app s).neg), .int .i64 ((x.app s).l.f), .slice a23 ((x.app s).l.args.length) c25, .int .i64 ((x.app s).r.f), .slice a24 ((x.app s).r.args.length) c26]) (fun za zh => ?_) ?_
    · have z0 : za.tmps[4]?.getD undef = .pointer (some ⟨g9, 0, none⟩) := by rw [← Array.getD_eq_getD_getElem?]; exact zh.knows 4 _ rfl
      have y0 : w18.cell? ⟨g9, 0, none⟩ = some (.bool ((x.app s).neg)) := ((hB27.cell 0).trans rfl)
      have y1 : w18.cell? ⟨g9, 1, none⟩ = some (.int .i64 ((x.app s).l.f)) := ((hB27.cell 1).trans rfl)
      have y2 : w18.cell? ⟨g9, 2, none⟩ = some (.slice a23 ((x.app s).l.args.length) c25) := ((hB27.cell 2).trans rfl)
      have y3 : w18.cell? ⟨g9, 3, none⟩ = some (.int .i64 ((x.app s).r.f)) := ((hB27.cell 3).trans rfl)
      have y4 : w18.cell? ⟨g9, 4, none⟩ = some (.slice a24 ((x.app s).r.args.length) c26) := ((hB27.cell 4).trans rfl)
      simp [results, Try.results29, z0, y0, y1, y2, y3, y4, go_sem]
    · have hgz := (hb17).size
      exact ⟨_, rfl, (hn28).older (by omega), hb21⟩

set_option maxRecDepth 100000 in
theorem rlit_any (s : List Bd) (x : Li) (w : World) (v : Value) (sa : Option Addr) (sc : Nat) (hz1 : x.l.size ≤ 4294967296) (hz2 : x.r.size ≤ 4294967296) (hv : IsLi w x v) (hs : IsSub w s sa sc) : Calls Try.prog 30 #[.slice sa s.length sc, v] w (Ret fun v' w' => NewL w w' (x.app s) v' ∧ Below w.heap.size w w') := by
  obtain ⟨a1, a2, c1, c2, rfl, hl, hr⟩ := hv.form
  refine Calls.walk (l := [.slice sa s.length sc, .agg #[.bool x.neg, .int .i64 x.l.f, .slice a1 x.l.args.length c1, .int .i64 x.r.f, .slice a2 x.r.args.length c2]]) Try.func30 rfl (by kernel_rfl) ?_
  refine WC.sub (K' := [(0, .slice sa s.length sc), (1, .agg #[.bool x.neg, .int .i64 x.l.f, .slice a1 x.l.args.length c1, .int .i64 x.r.f, .slice a2 x.r.args.length c2])]) ⟨rfl, rfl, trivial⟩ ?_
  refine WC.seq ?_
  refine WC.region ?_
  refine WL.step (post := NewBlk w 44 #[.bool x.neg, .int .i64 x.l.f, .slice a1 x.l.args.length c1, .int .i64 x.r.f, .slice a2 x.r.args.length c2]) rfl rfl rfl (fun za zC zh zk => box_44 rfl (zh.ev rfl) (zk _ _ (newBlk _ _ _))) ?_
  rintro _ w1 ⟨g2, rfl, hg3, hB4, hb5, hz6⟩
  have hl7 : w.heap.size ≤ g2 := by omega
  refine WL.step (post := NewBlk w1 44 #[.bool false, .int .i64 0, .slice none 0 0, .int .i64 0, .slice none 0 0]) rfl rfl rfl (fun za zC zh zk => alloc_44 rfl (zk _ _ (newBlk _ _ _))) ?_
  rintro _ w8 ⟨g9, rfl, hg10, hB11, hb12, hz13⟩
  have hl14 : g2 < g9 := by have z1 := hB4.lt; omega
  have hl15 : w.heap.size ≤ g9 := by have z2 := (hb5).size; omega
  refine WL.nil (WE.sub (K' := [(0, .slice sa s.length sc), (1, .agg #[.bool x.neg, .int .i64 x.l.f, .slice a1 x.l.args.length c1, .int .i64 x.r.f, .slice a2 x.r.args.length c2]), (3, .pointer (some ⟨g2, 0, none⟩)), (4, .pointer (some ⟨g9, 0, none⟩))]) ⟨rfl, rfl, rfl, rfl, trivial⟩ ?_)
  refine WE.next ?_
  refine WC.seq ?_
  have hB16 := hB4.below hb12
  have hb17 : Below w.heap.size w w8 := (bstep hb5 hb12)
  have hSlt : ∀ b, (fun b => b = g9) b → b < w8.heap.size := fun b e => e ▸ hB11.lt
  have hgl : g9 < w8.heap.size := hB11.lt
  refine WC.tail1 (S := ((fun b => b = g9))) [(true, .val (.pointer (some ⟨g2, 0, none⟩))), (true, .val (.bool x.neg)), (true, .val (.slice sa s.length sc)), (true, .val (.pointer (some ⟨g2, 1, none⟩))), (true, .val (.agg #[.int .i64 x.l.f, .slice a1 x.l.args.length c1])), (true, .mem (fun v w' => NewT w8 w' ((x.app s).l) v) (fun v w w' hc h => InT.chg h hc (fun b hb hs => by have z := hSlt b hs; omega))), (true, .val (.slice sa s.length sc)), (true, .val (.pointer (some ⟨g2, 3, none⟩))), (true, .val (.agg #[.int .i64 x.r.f, .slice a2 x.r.args.length c2])), (true, .mem (fun v w' => NewT w8 w' ((x.app s).r) v) (fun v w w' hc h => InT.chg h hc (fun b hb hs => by have z := hSlt b hs; omega))), (true, .mem (fun v w' => NewL w8 w' ((x.app s)) v) (fun v w w' hc h => NewL.chg h hc (fun b hb hs => by have z := hSlt b hs; omega))), (true, .val undef)] [(0, .slice sa s.length sc), (1, .agg #[.bool x.neg, .int .i64 x.l.f, .slice a1 x.l.args.length c1, .int .i64 x.r.f, .slice a2 x.r.args.length c2]), (3, .pointer (some ⟨g2, 0, none⟩)), (4, .pointer (some ⟨g9, 0, none⟩))] 11 (fun wz => LiBox w8 wz g9 44 ((x.app s))) (fun w w' hb h => h.below hb) ⟨rfl, rfl, rfl, rfl, trivial⟩ (by kernel_rfl) (by kernel_rfl) (by kernel_rfl) (by kernel_rfl) ?_ ?_
  · refine ⟨.inl ⟨rfl, true, .none rfl, (fun gg b h => by cases h), fun h w => optUndef h, fun zβ za zw zc => ?_⟩, ?_⟩
    · exact fld_44_0 rfl (zc.kn.ev rfl) ⟨_, rfl, Below.refl _ _, optDef zβ rfl⟩
    refine ⟨.inl ⟨rfl, true, .none rfl, (fun gg b h => by cases h), fun h w => optUndef h, fun zβ za zw zc => ?_⟩, ?_⟩
    · exact ld_4 rfl ((show za.eval (.tmp 5) = za.tmps.getD 5 undef from rfl).trans (optSVal (zc.dep 0 5 (by kernel_rfl) (by decide)) rfl rfl)) (bkeeps (zc.early (by kernel_rfl)) _ _ ((hB16.cell 0).trans rfl)) ⟨_, rfl, Below.refl _ _, optDef zβ rfl⟩
    refine ⟨.inl ⟨rfl, true, .none rfl, (fun gg b h => by cases h), fun h w => optUndef h, fun zβ za zw zc => ?_⟩, ?_⟩
    · exact wp_move rfl (zc.kn.ev rfl) ⟨_, rfl, Below.refl _ _, optDef zβ rfl⟩
    refine ⟨.inl ⟨rfl, true, .none rfl, (fun gg b h => by cases h), fun h w => optUndef h, fun zβ za zw zc => ?_⟩, ?_⟩
    · exact fld_44_1 rfl (zc.kn.ev rfl) ⟨_, rfl, Below.refl _ _, optDef zβ rfl⟩
    refine ⟨.inl ⟨rfl, true, .none rfl, (fun gg b h => by cases h), fun h w => optUndef h, fun zβ za zw zc => ?_⟩, ?_⟩
    · exact ld_32 rfl ((show za.eval (.tmp 8) = za.tmps.getD 8 undef from rfl).trans (optSVal (zc.dep 3 8 (by kernel_rfl) (by decide)) rfl rfl)) (bkeeps (zc.early (by kernel_rfl)) _ _ ((hB16.cell 1).trans rfl)) (bkeeps (zc.early (by kernel_rfl)) _ _ ((hB16.cell 2).trans rfl)) ⟨_, rfl, Below.refl _ _, optDef zβ rfl⟩
    refine ⟨.inl ⟨rfl, true, .none rfl, (fun gg b h => by cases h), fun h w => optUndef h, fun zβ za zw zc => ?_⟩, ?_⟩
    · exact wp_call (by kernel_rfl) rfl (hv2 ((show za.eval (.tmp 7) = za.tmps.getD 7 undef from rfl).trans (optSVal (zc.dep 2 7 (by kernel_rfl) (by decide)) rfl rfl)) ((show za.eval (.tmp 9) = za.tmps.getD 9 undef from rfl).trans (optSVal (zc.dep 4 9 (by kernel_rfl) (by decide)) rfl rfl))) (rapply_any s sa sc x.l _ _ hz1 (IsT.below (bstep hb17 (zc.early (by kernel_rfl))) hl) (hs.below (bstep hb17 (zc.early (by kernel_rfl))))) (fun v w' h => ⟨v, rfl, h.2, optDef zβ (InT.mono (fun b hb _ => Nat.le_trans (zc.early (by kernel_rfl)).size hb) h.1)⟩)
    refine ⟨.inl ⟨rfl, true, .none rfl, (fun gg b h => by cases h), fun h w => optUndef h, fun zβ za zw zc => ?_⟩, ?_⟩
    · exact wp_move rfl (zc.kn.ev rfl) ⟨_, rfl, Below.refl _ _, optDef zβ rfl⟩
    refine ⟨.inl ⟨rfl, true, .none rfl, (fun gg b h => by cases h), fun h w => optUndef h, fun zβ za zw zc => ?_⟩, ?_⟩
    · exact fld_44_2 rfl (zc.kn.ev rfl) ⟨_, rfl, Below.refl _ _, optDef zβ rfl⟩
    refine ⟨.inl ⟨rfl, true, .none rfl, (fun gg b h => by cases h), fun h w => optUndef h, fun zβ za zw zc => ?_⟩, ?_⟩
    · exact ld_32 rfl ((show za.eval (.tmp 12) = za.tmps.getD 12 undef from rfl).trans (optSVal (zc.dep 7 12 (by kernel_rfl) (by decide)) rfl rfl)) (bkeeps (zc.early (by kernel_rfl)) _ _ ((hB16.cell 3).trans rfl)) (bkeeps (zc.early (by kernel_rfl)) _ _ ((hB16.cell 4).trans rfl)) ⟨_, rfl, Below.refl _ _, optDef zβ rfl⟩
    refine ⟨.inl ⟨rfl, true, .none rfl, (fun gg b h => by cases h), fun h w => optUndef h, fun zβ za zw zc => ?_⟩, ?_⟩
    · exact wp_call (by kernel_rfl) rfl (hv2 ((show za.eval (.tmp 11) = za.tmps.getD 11 undef from rfl).trans (optSVal (zc.dep 6 11 (by kernel_rfl) (by decide)) rfl rfl)) ((show za.eval (.tmp 13) = za.tmps.getD 13 undef from rfl).trans (optSVal (zc.dep 8 13 (by kernel_rfl) (by decide)) rfl rfl))) (rapply_any s sa sc x.r _ _ hz2 (IsT.below (bstep hb17 (zc.early (by kernel_rfl))) hr) (hs.below (bstep hb17 (zc.early (by kernel_rfl))))) (fun v w' h => ⟨v, rfl, h.2, optDef zβ (InT.mono (fun b hb _ => Nat.le_trans (zc.early (by kernel_rfl)).size hb) h.1)⟩)
    refine ⟨.inl ⟨rfl, true, .none rfl, (fun gg b h => by cases h), fun h w => optUndef h, fun zβ za zw zc => ?_⟩, ?_⟩
    · have z1 := (optSMem (zc.dep 5 10 (by kernel_rfl) (by decide)) rfl rfl)
      obtain ⟨_, a1, c1, e1, _⟩ := z1.form
      rw [e1] at z1
      have z2 := (optSMem (zc.dep 9 14 (by kernel_rfl) (by decide)) rfl rfl)
      obtain ⟨_, a2, c2, e2, _⟩ := z2.form
      rw [e2] at z2
      exact build_44_0_1_2 rfl ((show za.eval (.tmp 6) = za.tmps.getD 6 undef from rfl).trans (optSVal (zc.dep 1 6 (by kernel_rfl) (by decide)) rfl rfl)) ((show za.eval (.tmp 10) = za.tmps.getD 10 undef from rfl).trans e1) ((show za.eval (.tmp 14) = za.tmps.getD 14 undef from rfl).trans e2) ⟨_, rfl, Below.refl _ _, optDef zβ (newL_mk (x := (x.app s)) z1 z2)⟩
    refine ⟨.inr ⟨rfl, rfl, fun za zw zc => ?_⟩, ?_⟩
    · have zv := (optSMem (zc.dep 10 15 (by kernel_rfl) (by decide)) rfl rfl)
      obtain ⟨a1, a2, c1, c2, e1⟩ := zv.parts
      rw [e1] at zv
      exact st_44 rfl (zc.kn.ev rfl) ((show za.eval (.tmp 15) = za.tmps.getD 15 undef from rfl).trans e1) rfl rfl rfl rfl rfl (hB11.below zc.below) (by decide) (fun v => ⟨v, rfl, ⟨a1, a2, c1, c2, ((((hB11.below zc.below).set_ 0 _).set_ 1 _).set_ 2 _ |>.set_ 3 _).set_ 4 _, zv.chg (S := fun b => b = g9) (.ofUpd (((((Upd.at_ _ _ _ _).trans (Upd.at_ _ _ _ _)).trans (Upd.at_ _ _ _ _)).trans (Upd.at_ _ _ _ _)).trans (Upd.at_ _ _ _ _)) rfl) (fun b hb e => by (try dsimp only at *); omega)⟩, .ofUpd (((((Upd.at_ _ _ _ _).trans (Upd.at_ _ _ _ _)).trans (Upd.at_ _ _ _ _)).trans (Upd.at_ _ _ _ _)).trans (Upd.at_ _ _ _ _)) rfl⟩)
    exact trivial
  · intro za w18 zh hG19 hc20 zu
    have hb21 := chg_below hb17 hc20 (fun b hb => (by (try dsimp only at *); omega))
    have hB22 := chg_blk hB16 hc20 (by (try dsimp only at *); omega)
    obtain ⟨a23, a24, c25, c26, hB27, hn28⟩ := hG19
    clear zu
    refine (show WE _ [(0, .slice sa s.length sc), (1, .agg #[.bool x.neg, .int .i64 x.l.f, .slice a1 x.l.args.length c1, .int .i64 x.r.f, .slice a2 x.r.args.length c2]), (3, .pointer (some ⟨g2, 0, none⟩)), (4, .pointer (some ⟨g9, 0, none⟩))] w18 _ .normal from ?_) za (zh.sub ⟨rfl, rfl, rfl, rfl, trivial⟩)
    refine WE.next ?_
    refine WC.ret ?_
    refine WE.retAny (v := .agg #[.bool ((x.app s).neg), .int .i64 ((x.app s).l.f), .slice a23 ((x.app s).l.args.length) c25, .int .i64 ((x.app s).r.f), .slice a24 ((x.app s).r.args.length) c26]) (fun za zh => ?_) ?_
    · have z0 : za.tmps[4]?.getD undef = .pointer (some ⟨g9, 0, none⟩) := by rw [← Array.getD_eq_getD_getElem?]; exact zh.knows 4 _ rfl
      have y0 : w18.cell? ⟨g9, 0, none⟩ = some (.bool ((x.app s).neg)) := ((hB27.cell 0).trans rfl)
      have y1 : w18.cell? ⟨g9, 1, none⟩ = some (.int .i64 ((x.app s).l.f)) := ((hB27.cell 1).trans rfl)
      have y2 : w18.cell? ⟨g9, 2, none⟩ = some (.slice a23 ((x.app s).l.args.length) c25) := ((hB27.cell 2).trans rfl)
      have y3 : w18.cell? ⟨g9, 3, none⟩ = some (.int .i64 ((x.app s).r.f)) := ((hB27.cell 3).trans rfl)
      have y4 : w18.cell? ⟨g9, 4, none⟩ = some (.slice a24 ((x.app s).r.args.length) c26) := ((hB27.cell 4).trans rfl)
      simp [results, Try.results30, z0, y0, y1, y2, y3, y4, go_sem]
    · have hgz := (hb17).size
      exact ⟨_, rfl, (hn28).older (by omega), hb21⟩

set_option maxRecDepth 100000 in
theorem clause_any (s : List Bd) (l : List Li) (w : World) (sa a : Option Addr) (sc c : Nat) (hs : IsSub w s sa sc) (h : IsCl w l a c) (hlen : l.length ≤ 1048576) : Calls Try.prog 31 #[.slice sa s.length sc, .slice a l.length c] w (Ret fun v' w' => (∃ p c', v' = .slice p (l.map (Li.app s)).length c' ∧ NewC w w' (l.map (Li.app s)) p c') ∧ Below w.heap.size w w') := by
  have hcap := h.cap
  refine Calls.walk (l := [.slice sa s.length sc, .slice a l.length c]) Try.func31 rfl (by kernel_rfl) ?_
  refine WC.sub (K' := [(0, .slice sa s.length sc), (1, .slice a l.length c)]) ⟨rfl, rfl, trivial⟩ ?_
  refine WC.seq ?_
  refine WC.region ?_
  refine WL.val (.slice none 0 0) rfl rfl rfl (fun za zC zh zk => wp_assign rfl (zh.ev rfl) zk) ?_
  refine WL.nil (WE.sub (K' := [(0, .slice sa s.length sc), (1, .slice a l.length c), (4, .slice none 0 0)]) ⟨rfl, rfl, rfl, trivial⟩ ?_)
  refine WE.next ?_
  refine WC.seq ?_
  refine WC.region ?_
  refine WL.val (.slice none 0 0) rfl rfl rfl (fun za zC zh zk => wp_assign rfl (zh.ev rfl) zk) ?_
  refine WL.nil (WE.sub (K' := [(0, .slice sa s.length sc), (1, .slice a l.length c), (4, .slice none 0 0), (5, .slice none 0 0)]) ⟨rfl, rfl, rfl, rfl, trivial⟩ ?_)
  refine WE.next ?_
  refine WC.seq ?_
  refine WC.seq ?_
  refine WC.region ?_
  refine WL.val (.slice a l.length c) rfl rfl rfl (fun za zC zh zk => wp_move rfl (zh.ev rfl) zk) ?_
  refine WL.val (.int .i64 (((l.length : Nat) : Int))) rfl rfl rfl (fun za zC zh zk => len_42 rfl (zh.ev rfl) zk) ?_
  refine WL.val (.int .i64 0) rfl rfl rfl (fun za zC zh zk => wp_move rfl (zh.ev rfl) zk) ?_
  refine WL.nil (WE.sub (K' := [(0, .slice sa s.length sc), (1, .slice a l.length c), (4, .slice none 0 0), (5, .slice none 0 0), (8, .slice a l.length c), (9, .int .i64 (((l.length : Nat) : Int))), (10, .int .i64 0)]) ⟨rfl, rfl, rfl, rfl, rfl, rfl, rfl, trivial⟩ ?_)
  refine WE.next ?_
  refine WC.block ?_
  have hR1 : RowE eltL w w.heap.size 44 none 0 0 [] := RowE.nil
  refine WC.loop (X := Option Addr × Nat × Nat) (fun x => l.length - x.2.2) (fun x => [(0, .slice sa s.length sc), (1, .slice a l.length c), (4, .slice none 0 0), (5, .slice x.1 x.2.2 x.2.1), (8, .slice a l.length c), (9, .int .i64 (((l.length : Nat) : Int))), (10, .int .i64 (((x.2.2 : Nat) : Int)))]) (fun x w2 => x.2.2 ≤ l.length ∧ w.heap.size ≤ (w2).heap.size ∧ Below w.heap.size w w2 ∧ RowE eltL (w2) w.heap.size 44 x.1 x.2.1 x.2.2 (((l.take x.2.2).map (Li.app s)))) ((none, 0, 0)) ⟨rfl, rfl, rfl, rfl, rfl, rfl, rfl, trivial⟩ ?_ ?_
  · exact ⟨Nat.zero_le _, Nat.le_refl _, (Below.refl _ _), (by simpa using hR1)⟩
  · rintro x w2 ⟨hk, hBw, hb3, ho4⟩
    refine WC.seq ?_
    refine WC.region ?_
    refine WL.val (.bool ((decide ((((x.2.2 : Nat) : Int) : Int) < (((l.length : Nat) : Int) : Int))))) rfl rfl rfl (fun za zC zh zk => lss_3 rfl (zh.ev rfl) (zh.ev rfl) zk) ?_
    refine WL.nil (WE.sub (K' := [(0, .slice sa s.length sc), (1, .slice a l.length c), (4, .slice none 0 0), (5, .slice x.1 x.2.2 x.2.1), (8, .slice a l.length c), (9, .int .i64 (((l.length : Nat) : Int))), (10, .int .i64 (((x.2.2 : Nat) : Int))), (11, .bool ((decide ((((x.2.2 : Nat) : Int) : Int) < (((l.length : Nat) : Int) : Int)))))]) ⟨rfl, rfl, rfl, rfl, rfl, rfl, rfl, rfl, trivial⟩ ?_)
    refine WE.next ?_
    refine WC.seq ?_
    refine WC.cond rfl (fun h5 => ?_) (fun h5 => ?_)
    · have h5 : (((x.2.2 : Nat) : Int) : Int) < (((l.length : Nat) : Int) : Int) := by simpa using h5
      refine WC.skip ?_
      refine WE.next ?_
      refine WC.seq ?_
      refine WC.block ?_
      refine WC.seq ?_
      refine WC.region ?_
      obtain ⟨b6, o7, A8, C9, A10, C11, ha12, hc13⟩ := InRow.openL h.rows
      refine WL.val (.pointer (some ⟨b6, o7 + x.2.2 * 5, none⟩)) rfl rfl rfl (fun za zC zh zk => ix_42 (k := x.2.2) rfl (zh.ev rfl) (ha12 x.2.2 (by first | omega | (simp; omega))) (zh.ev rfl) (by first | omega | (simp; omega)) zk) ?_
      refine WL.val (.agg #[.bool ((lget l x.2.2).neg), .int .i64 ((lget l x.2.2).l.f), .slice ((A8 x.2.2)) ((lget l x.2.2).l.args.length) ((C9 x.2.2)), .int .i64 ((lget l x.2.2).r.f), .slice ((A10 x.2.2)) ((lget l x.2.2).r.args.length) ((C11 x.2.2))]) rfl rfl rfl (fun za zC zh zk => ld_44 rfl (zh.ev rfl) (bkeeps hb3 _ _ (hc13 x.2.2 (by first | omega | (simp; omega))).1) (bkeeps hb3 _ _ (hc13 x.2.2 (by first | omega | (simp; omega))).2.1) (bkeeps hb3 _ _ (hc13 x.2.2 (by first | omega | (simp; omega))).2.2.1) (bkeeps hb3 _ _ (hc13 x.2.2 (by first | omega | (simp; omega))).2.2.2.1) (bkeeps hb3 _ _ (hc13 x.2.2 (by first | omega | (simp; omega))).2.2.2.2.1) zk) ?_
      refine WL.step (post := NewBlk w2 44 #[.bool false, .int .i64 0, .slice none 0 0, .int .i64 0, .slice none 0 0]) rfl rfl rfl (fun za zC zh zk => alloc_44 rfl (zk _ _ (newBlk _ _ _))) ?_
      rintro _ w14 ⟨g15, rfl, hg16, hB17, hb18, hz19⟩
      have hl20 : w.heap.size ≤ g15 := by have z2 := (hb3).size; omega
      have hl21 : w2.heap.size ≤ g15 := by omega
      refine WL.step (post := fun _ w' => Upd g15 w14 w' ∧ Blk w' g15 44 #[.bool ((lget l x.2.2).neg), .int .i64 ((lget l x.2.2).l.f), .slice ((A8 x.2.2)) ((lget l x.2.2).l.args.length) ((C9 x.2.2)), .int .i64 ((lget l x.2.2).r.f), .slice ((A10 x.2.2)) ((lget l x.2.2).r.args.length) ((C11 x.2.2))]) rfl rfl rfl (fun za zC zh zk => st_44 rfl (zh.ev rfl) (zh.ev rfl) rfl rfl rfl rfl rfl hB17 (by first | decide | simp) (fun v => zk v _ ⟨((((Upd.at_ _ _ _ _).trans (Upd.at_ _ _ _ _)).trans (Upd.at_ _ _ _ _)).trans (Upd.at_ _ _ _ _)).trans (Upd.at_ _ _ _ _), ((((hB17.set_ 0 _).set_ 1 _).set_ 2 _).set_ 3 _).set_ 4 _⟩)) ?_
      rintro v25 w22 ⟨hu23, hB24⟩
      have hb26 : Below w.heap.size w w14 := (bstep hb3 hb18)
      have hb27 := upd_below hb26 hu23 (by omega)
      have hb28 := upd_below hb18 hu23 (by omega)
      refine WL.nil (WE.sub (K' := [(0, .slice sa s.length sc), (1, .slice a l.length c), (4, .slice none 0 0), (5, .slice x.1 x.2.2 x.2.1), (7, .pointer (some ⟨g15, 0, none⟩)), (8, .slice a l.length c), (9, .int .i64 (((l.length : Nat) : Int))), (10, .int .i64 (((x.2.2 : Nat) : Int))), (11, .bool ((decide ((((x.2.2 : Nat) : Int) : Int) < (((l.length : Nat) : Int) : Int)))))]) ⟨rfl, rfl, rfl, rfl, rfl, rfl, rfl, rfl, rfl, trivial⟩ ?_)
      refine WE.next ?_
      have ho29 := ho4.below hb28
      have hSlt : ∀ b, (fun b => (Value.slice x.1 x.2.2 x.2.1).ownBlock = some b) b → b < w22.heap.size := fun b h => (ho29.lt b h).2
      have hSlo : ∀ b, (fun b => (Value.slice x.1 x.2.2 x.2.1).ownBlock = some b) b → w.heap.size ≤ b ∧ b < w2.heap.size := fun b h => ho4.lt b h
      have hBW : w.heap.size ≤ w22.heap.size := by have z1 := hb27.size; omega
      have hlL : x.2.2 = (((l.take x.2.2).map (Li.app s))).length := ho29.len
      refine WC.tail3 (S := ((fun b => (Value.slice x.1 x.2.2 x.2.1).ownBlock = some b))) [(true, .val (.slice x.1 x.2.2 x.2.1)), (true, .val (.slice sa s.length sc)), (true, .val (.agg #[.bool ((lget l x.2.2).neg), .int .i64 ((lget l x.2.2).l.f), .slice ((A8 x.2.2)) ((lget l x.2.2).l.args.length) ((C9 x.2.2)), .int .i64 ((lget l x.2.2).r.f), .slice ((A10 x.2.2)) ((lget l x.2.2).r.args.length) ((C11 x.2.2))])), (true, .mem (fun v w' => NewL w22 w' (((lget l x.2.2).app s)) v) (fun v w w' hc h => NewL.chg h hc (fun b hb hs => by have z := hSlt b hs; omega))), (true, .mem (fun v w' => OneRow eltL w22 44 (((lget l x.2.2).app s)) v w') (fun v w w' hc h => h.chg hc hSlt)), (true, .val undef), (true, .val undef)] [(0, .slice sa s.length sc), (1, .slice a l.length c), (4, .slice none 0 0), (7, .pointer (some ⟨g15, 0, none⟩)), (8, .slice a l.length c), (9, .int .i64 (((l.length : Nat) : Int))), (10, .int .i64 (((x.2.2 : Nat) : Int))), (11, .bool ((decide ((((x.2.2 : Nat) : Int) : Int) < (((l.length : Nat) : Int) : Int)))))] 5 6 ((x.2.2 + 1)) 19 5 (fun ra rc wz => RowE eltL wz w.heap.size 44 ra rc (x.2.2 + 1) (((l.take x.2.2).map (Li.app s) ++ [((lget l x.2.2).app s)]))) (by decide) (fun ra rc w w' hb h => h.below hb) ⟨rfl, rfl, rfl, rfl, rfl, rfl, rfl, rfl, trivial⟩ (by kernel_rfl) (by kernel_rfl) (by kernel_rfl) (by kernel_rfl) (by kernel_rfl) (by kernel_rfl) ?_ ?_
      · refine ⟨.inl ⟨rfl, true, .none rfl, (fun gg b h => by cases h), fun h w => optUndef h, fun zβ za zw zc => ?_⟩, ?_⟩
        · exact wp_move rfl ((show za.eval (.tmp 5) = za.tmps.getD 5 undef from rfl).trans (zc.old 5 _ rfl (by kernel_rfl))) ⟨_, rfl, Below.refl _ _, optDef zβ rfl⟩
        refine ⟨.inl ⟨rfl, true, .none rfl, (fun gg b h => by cases h), fun h w => optUndef h, fun zβ za zw zc => ?_⟩, ?_⟩
        · exact wp_move rfl (zc.kn.ev rfl) ⟨_, rfl, Below.refl _ _, optDef zβ rfl⟩
        refine ⟨.inl ⟨rfl, true, .none rfl, (fun gg b h => by cases h), fun h w => optUndef h, fun zβ za zw zc => ?_⟩, ?_⟩
        · exact ld_44 rfl (zc.kn.ev rfl) (bkeeps (zc.early (by kernel_rfl)) _ _ ((hB24.cell 0).trans rfl)) (bkeeps (zc.early (by kernel_rfl)) _ _ ((hB24.cell 1).trans rfl)) (bkeeps (zc.early (by kernel_rfl)) _ _ ((hB24.cell 2).trans rfl)) (bkeeps (zc.early (by kernel_rfl)) _ _ ((hB24.cell 3).trans rfl)) (bkeeps (zc.early (by kernel_rfl)) _ _ ((hB24.cell 4).trans rfl)) ⟨_, rfl, Below.refl _ _, optDef zβ rfl⟩
        refine ⟨.inl ⟨rfl, true, .none rfl, (fun gg b h => by cases h), fun h w => optUndef h, fun zβ za zw zc => ?_⟩, ?_⟩
        · exact wp_call (by kernel_rfl) rfl (hv2 ((show za.eval (.tmp 15) = za.tmps.getD 15 undef from rfl).trans (optSVal (zc.dep 1 15 (by kernel_rfl) (by decide)) rfl rfl)) ((show za.eval (.tmp 16) = za.tmps.getD 16 undef from rfl).trans (optSVal (zc.dep 2 16 (by kernel_rfl) (by decide)) rfl rfl))) (lit_any s (lget l x.2.2) _ _ _ _ (h.pl (by omega)) (h.pr (by omega)) (isLi_mk (IsT.below (bstep hb27 (zc.early (by kernel_rfl))) (InT.isT (hc13 x.2.2 (by first | omega | (simp; omega))).2.2.2.2.2.1)) (IsT.below (bstep hb27 (zc.early (by kernel_rfl))) (InT.isT (hc13 x.2.2 (by first | omega | (simp; omega))).2.2.2.2.2.2))) (hs.below (bstep hb27 (zc.early (by kernel_rfl))))) (fun v w' h => ⟨v, rfl, h.2, optDef zβ (NewL.older h.1 (zc.early (by kernel_rfl)).size)⟩)
        refine ⟨.inl ⟨rfl, true, .none rfl, (fun gg b h => by cases h), fun h w => optUndef h, fun zβ za zw zc => ?_⟩, ?_⟩
        · have zv := (optSMem (zc.dep 3 17 (by kernel_rfl) (by decide)) rfl rfl)
          obtain ⟨a1, a2, c1, c2, e1⟩ := zv.parts
          rw [e1] at zv
          exact row_42_1 rfl ((show za.eval (.tmp 17) = za.tmps.getD 17 undef from rfl).trans e1) ⟨_, rfl, balloc _ _, optDef zβ ⟨_, _, rfl, zc.chg.size, Blk.new' rfl, eltL.below' (balloc _ _) zv.elt⟩⟩
        refine ⟨.inr (.inl ⟨rfl, rfl, fun za zw zc => ?_⟩), ?_⟩
        · obtain ⟨g1, cs, e1, hg1, hB1, hin⟩ := (optSMem (zc.dep 4 18 (by kernel_rfl) (by decide)) rfl rfl)
          exact wp_appE (E := eltL) (size := 5) (bytes := 72) (z := .agg #[.bool false, .int .i64 0, .slice none 0 0, .int .i64 0, .slice none 0 0]) rfl Try.underlying42 (by kernel_rfl) rfl (by decide) rfl ((show za.eval (.tmp 14) = za.tmps.getD 14 undef from rfl).trans (optSVal (zc.dep 0 14 (by kernel_rfl) (by decide)) rfl rfl)) ((show za.eval (.tmp 18) = za.tmps.getD 18 undef from rfl).trans e1) (ho29.below zc.below) hB1 (eltL.mono (fun b hb _ => ⟨by omega, fun e => by have z := (ho29.lt b e).2; omega⟩) hin) (by omega) (by omega) (by have z := zc.below.size; omega) (fun ra rc w' h1 h2 _ => ⟨ra, rc, rfl, h1, h2⟩)
        refine ⟨.inr (.inr ⟨rfl, rfl, 19, by kernel_rfl, rfl⟩), ?_⟩
        exact trivial
      · intro za w30 ra33 rc34 zh zv zv2 hG31 hc32 zu
        have zh := zh.cons (d := 5) zv2
        have hb35 := chg_below hb27 hc32 (fun b hb => (fun h => by have h := hSlo _ h; (try dsimp only at *); omega))
        have hB36 := chg_blk hB24 hc32 (fun h => by have h := hSlo _ h; (try dsimp only at *); omega)
        clear zu
        refine (show WE _ [(0, .slice sa s.length sc), (1, .slice a l.length c), (4, .slice none 0 0), (5, .slice ra33 ((x.2.2 + 1)) rc34), (7, .pointer (some ⟨g15, 0, none⟩)), (8, .slice a l.length c), (9, .int .i64 (((l.length : Nat) : Int))), (10, .int .i64 (((x.2.2 : Nat) : Int))), (11, .bool ((decide ((((x.2.2 : Nat) : Int) : Int) < (((l.length : Nat) : Int) : Int)))))] w30 _ .normal from ?_) za (zh.sub ⟨rfl, rfl, rfl, rfl, rfl, rfl, rfl, rfl, rfl, trivial⟩)
        refine WE.blockNormal ?_
        refine WE.next ?_
        refine WC.region ?_
        refine WL.val (.int .i64 ((((x.2.2 + 1) : Nat) : Int))) rfl rfl rfl (fun za zC zh zk => addb_3 rfl (zh.ev rfl) (zh.ev rfl) (wrap_eq (by omega) (by omega) (by omega)) zk) ?_
        refine WL.val (.int .i64 ((((x.2.2 + 1) : Nat) : Int))) rfl rfl rfl (fun za zC zh zk => wp_move rfl (zh.ev rfl) zk) ?_
        refine WL.nil (WE.sub (K' := [(0, .slice sa s.length sc), (1, .slice a l.length c), (4, .slice none 0 0), (5, .slice ra33 ((x.2.2 + 1)) rc34), (7, .pointer (some ⟨g15, 0, none⟩)), (8, .slice a l.length c), (9, .int .i64 (((l.length : Nat) : Int))), (10, .int .i64 ((((x.2.2 + 1) : Nat) : Int))), (11, .bool ((decide ((((x.2.2 : Nat) : Int) : Int) < (((l.length : Nat) : Int) : Int)))))]) ⟨rfl, rfl, rfl, rfl, rfl, rfl, rfl, rfl, rfl, trivial⟩ ?_)
        refine WE.round ((ra33, rc34, x.2.2 + 1)) ⟨rfl, rfl, rfl, rfl, rfl, rfl, rfl, trivial⟩ ?_ ?_
        · exact ⟨by (try dsimp only at *); omega, hb35.size, hb35, (by rw [← take_mapL (by (try dsimp only at *); omega)]; exact hG31)⟩
        · dsimp only; omega
    · have h5 : ¬ ((((x.2.2 : Nat) : Int) : Int) < (((l.length : Nat) : Int) : Int)) := by simpa using h5
      refine WC.exit ?_
      refine WE.thenExit ?_
      refine WE.thenExit ?_
      refine WE.blockIs rfl ?_
      refine WE.next ?_
      refine WC.seq ?_
      refine WC.region ?_
      refine WL.val (.slice x.1 x.2.2 x.2.1) rfl rfl rfl (fun za zC zh zk => wp_move rfl (zh.ev rfl) zk) ?_
      refine WL.val (.slice x.1 x.2.2 x.2.1) rfl rfl rfl (fun za zC zh zk => wp_assign rfl (zh.ev rfl) zk) ?_
      refine WL.nil (WE.sub (K' := [(0, .slice sa s.length sc), (1, .slice a l.length c), (4, .slice x.1 x.2.2 x.2.1), (5, .slice x.1 x.2.2 x.2.1), (8, .slice a l.length c), (9, .int .i64 (((l.length : Nat) : Int))), (10, .int .i64 (((x.2.2 : Nat) : Int))), (11, .bool ((decide ((((x.2.2 : Nat) : Int) : Int) < (((l.length : Nat) : Int) : Int)))))]) ⟨rfl, rfl, rfl, rfl, rfl, rfl, rfl, rfl, trivial⟩ ?_)
      refine WE.next ?_
      refine WC.ret ?_
      refine WE.ret1 rfl rfl ?_
      have z := ho4
      rw [List.take_of_length_le (by omega)] at z
      obtain ⟨e, z⟩ := newC_row (w0 := w) z (by omega)
      exact ⟨_, rfl, ⟨_, _, by rw [← e], z⟩, hb3⟩

set_option maxRecDepth 100000 in
theorem rclause_any (s : List Bd) (l : List Li) (w : World) (sa a : Option Addr) (sc c : Nat) (hs : IsSub w s sa sc) (h : IsCl w l a c) (hlen : l.length ≤ 1048576) : Calls Try.prog 32 #[.slice sa s.length sc, .slice a l.length c] w (Ret fun v' w' => (∃ p c', v' = .slice p (l.map (Li.app s)).length c' ∧ NewC w w' (l.map (Li.app s)) p c') ∧ Below w.heap.size w w') := by
  have hcap := h.cap
  refine Calls.walk (l := [.slice sa s.length sc, .slice a l.length c]) Try.func32 rfl (by kernel_rfl) ?_
  refine WC.sub (K' := [(0, .slice sa s.length sc), (1, .slice a l.length c)]) ⟨rfl, rfl, trivial⟩ ?_
  refine WC.seq ?_
  refine WC.region ?_
  refine WL.val (.slice none 0 0) rfl rfl rfl (fun za zC zh zk => wp_assign rfl (zh.ev rfl) zk) ?_
  refine WL.nil (WE.sub (K' := [(0, .slice sa s.length sc), (1, .slice a l.length c), (4, .slice none 0 0)]) ⟨rfl, rfl, rfl, trivial⟩ ?_)
  refine WE.next ?_
  refine WC.seq ?_
  refine WC.region ?_
  refine WL.val (.slice none 0 0) rfl rfl rfl (fun za zC zh zk => wp_assign rfl (zh.ev rfl) zk) ?_
  refine WL.nil (WE.sub (K' := [(0, .slice sa s.length sc), (1, .slice a l.length c), (4, .slice none 0 0), (5, .slice none 0 0)]) ⟨rfl, rfl, rfl, rfl, trivial⟩ ?_)
  refine WE.next ?_
  refine WC.seq ?_
  refine WC.seq ?_
  refine WC.region ?_
  refine WL.val (.int .i64 0) rfl rfl rfl (fun za zC zh zk => wp_assign rfl (zh.ev rfl) zk) ?_
  refine WL.nil (WE.sub (K' := [(0, .slice sa s.length sc), (1, .slice a l.length c), (4, .slice none 0 0), (5, .slice none 0 0), (6, .int .i64 0)]) ⟨rfl, rfl, rfl, rfl, rfl, trivial⟩ ?_)
  refine WE.next ?_
  refine WC.block ?_
  have hR1 : RowE eltL w w.heap.size 44 none 0 0 [] := RowE.nil
  refine WC.loop (X := Option Addr × Nat × Nat) (fun x => l.length - x.2.2) (fun x => [(0, .slice sa s.length sc), (1, .slice a l.length c), (4, .slice none 0 0), (5, .slice x.1 x.2.2 x.2.1), (6, .int .i64 (((x.2.2 : Nat) : Int)))]) (fun x w2 => x.2.2 ≤ l.length ∧ w.heap.size ≤ (w2).heap.size ∧ Below w.heap.size w w2 ∧ RowE eltL (w2) w.heap.size 44 x.1 x.2.1 x.2.2 (((l.take x.2.2).map (Li.app s)))) ((none, 0, 0)) ⟨rfl, rfl, rfl, rfl, rfl, trivial⟩ ?_ ?_
  · exact ⟨Nat.zero_le _, Nat.le_refl _, (Below.refl _ _), (by simpa using hR1)⟩
  · rintro x w2 ⟨hk, hBw, hb3, ho4⟩
    refine WC.seq ?_
    refine WC.seq ?_
    refine WC.region ?_
    refine WL.val (.int .i64 (((x.2.2 : Nat) : Int))) rfl rfl rfl (fun za zC zh zk => wp_move rfl (zh.ev rfl) zk) ?_
    refine WL.val (.slice a l.length c) rfl rfl rfl (fun za zC zh zk => wp_move rfl (zh.ev rfl) zk) ?_
    refine WL.val (.int .i64 (((l.length : Nat) : Int))) rfl rfl rfl (fun za zC zh zk => len_42 rfl (zh.ev rfl) zk) ?_
    refine WL.val (.bool ((decide ((((x.2.2 : Nat) : Int) : Int) < (((l.length : Nat) : Int) : Int))))) rfl rfl rfl (fun za zC zh zk => lss_3 rfl (zh.ev rfl) (zh.ev rfl) zk) ?_
    refine WL.nil (WE.sub (K' := [(0, .slice sa s.length sc), (1, .slice a l.length c), (4, .slice none 0 0), (5, .slice x.1 x.2.2 x.2.1), (6, .int .i64 (((x.2.2 : Nat) : Int))), (10, .bool ((decide ((((x.2.2 : Nat) : Int) : Int) < (((l.length : Nat) : Int) : Int)))))]) ⟨rfl, rfl, rfl, rfl, rfl, rfl, trivial⟩ ?_)
    refine WE.next ?_
    refine WC.cond rfl (fun h5 => ?_) (fun h5 => ?_)
    · have h5 : (((x.2.2 : Nat) : Int) : Int) < (((l.length : Nat) : Int) : Int) := by simpa using h5
      refine WC.skip ?_
      refine WE.next ?_
      refine WC.seq ?_
      refine WC.block ?_
      obtain ⟨b6, o7, A8, C9, A10, C11, ha12, hc13⟩ := InRow.openL h.rows
      have hSlt : ∀ b, (fun b => (Value.slice x.1 x.2.2 x.2.1).ownBlock = some b) b → b < w2.heap.size := fun b h => (ho4.lt b h).2
      have hSlo : ∀ b, (fun b => (Value.slice x.1 x.2.2 x.2.1).ownBlock = some b) b → w.heap.size ≤ b ∧ b < w2.heap.size := fun b h => ho4.lt b h
      have hBW : w.heap.size ≤ w2.heap.size := by have z1 := hBw; omega
      have hlL : x.2.2 = (((l.take x.2.2).map (Li.app s))).length := ho4.len
      refine WC.tail3 (S := ((fun b => (Value.slice x.1 x.2.2 x.2.1).ownBlock = some b))) [(true, .val (.slice x.1 x.2.2 x.2.1)), (true, .val (.slice sa s.length sc)), (true, .val (.slice a l.length c)), (true, .val (.int .i64 (((x.2.2 : Nat) : Int)))), (true, .val (.pointer (some ⟨b6, o7 + x.2.2 * 5, none⟩))), (true, .val (.agg #[.bool ((lget l x.2.2).neg), .int .i64 ((lget l x.2.2).l.f), .slice ((A8 x.2.2)) ((lget l x.2.2).l.args.length) ((C9 x.2.2)), .int .i64 ((lget l x.2.2).r.f), .slice ((A10 x.2.2)) ((lget l x.2.2).r.args.length) ((C11 x.2.2))])), (true, .mem (fun v w' => NewL w2 w' (((lget l x.2.2).app s)) v) (fun v w w' hc h => NewL.chg h hc (fun b hb hs => by have z := hSlt b hs; omega))), (true, .mem (fun v w' => OneRow eltL w2 44 (((lget l x.2.2).app s)) v w') (fun v w w' hc h => h.chg hc hSlt)), (true, .val undef), (true, .val undef)] [(0, .slice sa s.length sc), (1, .slice a l.length c), (4, .slice none 0 0), (6, .int .i64 (((x.2.2 : Nat) : Int))), (10, .bool ((decide ((((x.2.2 : Nat) : Int) : Int) < (((l.length : Nat) : Int) : Int)))))] 8 9 ((x.2.2 + 1)) 21 5 (fun ra rc wz => RowE eltL wz w.heap.size 44 ra rc (x.2.2 + 1) (((l.take x.2.2).map (Li.app s) ++ [((lget l x.2.2).app s)]))) (by decide) (fun ra rc w w' hb h => h.below hb) ⟨rfl, rfl, rfl, rfl, rfl, trivial⟩ (by kernel_rfl) (by kernel_rfl) (by kernel_rfl) (by kernel_rfl) (by kernel_rfl) (by kernel_rfl) ?_ ?_
      · refine ⟨.inl ⟨rfl, true, .none rfl, (fun gg b h => by cases h), fun h w => optUndef h, fun zβ za zw zc => ?_⟩, ?_⟩
        · exact wp_move rfl ((show za.eval (.tmp 5) = za.tmps.getD 5 undef from rfl).trans (zc.old 5 _ rfl (by kernel_rfl))) ⟨_, rfl, Below.refl _ _, optDef zβ rfl⟩
        refine ⟨.inl ⟨rfl, true, .none rfl, (fun gg b h => by cases h), fun h w => optUndef h, fun zβ za zw zc => ?_⟩, ?_⟩
        · exact wp_move rfl (zc.kn.ev rfl) ⟨_, rfl, Below.refl _ _, optDef zβ rfl⟩
        refine ⟨.inl ⟨rfl, true, .none rfl, (fun gg b h => by cases h), fun h w => optUndef h, fun zβ za zw zc => ?_⟩, ?_⟩
        · exact wp_move rfl (zc.kn.ev rfl) ⟨_, rfl, Below.refl _ _, optDef zβ rfl⟩
        refine ⟨.inl ⟨rfl, true, .none rfl, (fun gg b h => by cases h), fun h w => optUndef h, fun zβ za zw zc => ?_⟩, ?_⟩
        · exact wp_move rfl (zc.kn.ev rfl) ⟨_, rfl, Below.refl _ _, optDef zβ rfl⟩
        refine ⟨.inl ⟨rfl, true, .none rfl, (fun gg b h => by cases h), fun h w => optUndef h, fun zβ za zw zc => ?_⟩, ?_⟩
        · exact ix_42 (k := x.2.2) rfl ((show za.eval (.tmp 15) = za.tmps.getD 15 undef from rfl).trans (optSVal (zc.dep 2 15 (by kernel_rfl) (by decide)) rfl rfl)) (ha12 x.2.2 (by first | omega | (simp; omega))) ((show za.eval (.tmp 16) = za.tmps.getD 16 undef from rfl).trans (optSVal (zc.dep 3 16 (by kernel_rfl) (by decide)) rfl rfl)) (by first | omega | (simp; omega)) ⟨_, rfl, Below.refl _ _, optDef zβ rfl⟩
        refine ⟨.inl ⟨rfl, true, .none rfl, (fun gg b h => by cases h), fun h w => optUndef h, fun zβ za zw zc => ?_⟩, ?_⟩
        · exact ld_44 rfl ((show za.eval (.tmp 17) = za.tmps.getD 17 undef from rfl).trans (optSVal (zc.dep 4 17 (by kernel_rfl) (by decide)) rfl rfl)) (bkeeps (bstep hb3 (zc.early (by kernel_rfl))) _ _ (hc13 x.2.2 (by first | omega | (simp; omega))).1) (bkeeps (bstep hb3 (zc.early (by kernel_rfl))) _ _ (hc13 x.2.2 (by first | omega | (simp; omega))).2.1) (bkeeps (bstep hb3 (zc.early (by kernel_rfl))) _ _ (hc13 x.2.2 (by first | omega | (simp; omega))).2.2.1) (bkeeps (bstep hb3 (zc.early (by kernel_rfl))) _ _ (hc13 x.2.2 (by first | omega | (simp; omega))).2.2.2.1) (bkeeps (bstep hb3 (zc.early (by kernel_rfl))) _ _ (hc13 x.2.2 (by first | omega | (simp; omega))).2.2.2.2.1) ⟨_, rfl, Below.refl _ _, optDef zβ rfl⟩
        refine ⟨.inl ⟨rfl, true, .none rfl, (fun gg b h => by cases h), fun h w => optUndef h, fun zβ za zw zc => ?_⟩, ?_⟩
        · exact wp_call (by kernel_rfl) rfl (hv2 ((show za.eval (.tmp 14) = za.tmps.getD 14 undef from rfl).trans (optSVal (zc.dep 1 14 (by kernel_rfl) (by decide)) rfl rfl)) ((show za.eval (.tmp 18) = za.tmps.getD 18 undef from rfl).trans (optSVal (zc.dep 5 18 (by kernel_rfl) (by decide)) rfl rfl))) (rlit_any s (lget l x.2.2) _ _ _ _ (h.pl (by omega)) (h.pr (by omega)) (isLi_mk (IsT.below (bstep hb3 (zc.early (by kernel_rfl))) (InT.isT (hc13 x.2.2 (by first | omega | (simp; omega))).2.2.2.2.2.1)) (IsT.below (bstep hb3 (zc.early (by kernel_rfl))) (InT.isT (hc13 x.2.2 (by first | omega | (simp; omega))).2.2.2.2.2.2))) (hs.below (bstep hb3 (zc.early (by kernel_rfl))))) (fun v w' h => ⟨v, rfl, h.2, optDef zβ (NewL.older h.1 (zc.early (by kernel_rfl)).size)⟩)
        refine ⟨.inl ⟨rfl, true, .none rfl, (fun gg b h => by cases h), fun h w => optUndef h, fun zβ za zw zc => ?_⟩, ?_⟩
        · have zv := (optSMem (zc.dep 6 19 (by kernel_rfl) (by decide)) rfl rfl)
          obtain ⟨a1, a2, c1, c2, e1⟩ := zv.parts
          rw [e1] at zv
          exact row_42_1 rfl ((show za.eval (.tmp 19) = za.tmps.getD 19 undef from rfl).trans e1) ⟨_, rfl, balloc _ _, optDef zβ ⟨_, _, rfl, zc.chg.size, Blk.new' rfl, eltL.below' (balloc _ _) zv.elt⟩⟩
        refine ⟨.inr (.inl ⟨rfl, rfl, fun za zw zc => ?_⟩), ?_⟩
        · obtain ⟨g1, cs, e1, hg1, hB1, hin⟩ := (optSMem (zc.dep 7 20 (by kernel_rfl) (by decide)) rfl rfl)
          exact wp_appE (E := eltL) (size := 5) (bytes := 72) (z := .agg #[.bool false, .int .i64 0, .slice none 0 0, .int .i64 0, .slice none 0 0]) rfl Try.underlying42 (by kernel_rfl) rfl (by decide) rfl ((show za.eval (.tmp 13) = za.tmps.getD 13 undef from rfl).trans (optSVal (zc.dep 0 13 (by kernel_rfl) (by decide)) rfl rfl)) ((show za.eval (.tmp 20) = za.tmps.getD 20 undef from rfl).trans e1) (ho4.below zc.below) hB1 (eltL.mono (fun b hb _ => ⟨by omega, fun e => by have z := (ho4.lt b e).2; omega⟩) hin) (by omega) (by omega) (by have z := zc.below.size; omega) (fun ra rc w' h1 h2 _ => ⟨ra, rc, rfl, h1, h2⟩)
        refine ⟨.inr (.inr ⟨rfl, rfl, 21, by kernel_rfl, rfl⟩), ?_⟩
        exact trivial
      · intro za w14 ra17 rc18 zh zv zv2 hG15 hc16 zu
        have zh := zh.cons (d := 5) zv2
        have hb19 := chg_below hb3 hc16 (fun b hb => (fun h => by have h := hSlo _ h; (try dsimp only at *); omega))
        clear zu
        refine (show WE _ [(0, .slice sa s.length sc), (1, .slice a l.length c), (4, .slice none 0 0), (5, .slice ra17 ((x.2.2 + 1)) rc18), (6, .int .i64 (((x.2.2 : Nat) : Int))), (10, .bool ((decide ((((x.2.2 : Nat) : Int) : Int) < (((l.length : Nat) : Int) : Int)))))] w14 _ .normal from ?_) za (zh.sub ⟨rfl, rfl, rfl, rfl, rfl, rfl, trivial⟩)
        refine WE.blockNormal ?_
        refine WE.next ?_
        refine WC.region ?_
        refine WL.val (.int .i64 (((x.2.2 : Nat) : Int))) rfl rfl rfl (fun za zC zh zk => wp_move rfl (zh.ev rfl) zk) ?_
        refine WL.val (.int .i64 ((((x.2.2 + 1) : Nat) : Int))) rfl rfl rfl (fun za zC zh zk => addb_3 rfl (zh.ev rfl) (zh.ev rfl) (wrap_eq (by omega) (by omega) (by omega)) zk) ?_
        refine WL.val (.int .i64 ((((x.2.2 + 1) : Nat) : Int))) rfl rfl rfl (fun za zC zh zk => wp_assign rfl (zh.ev rfl) zk) ?_
        refine WL.nil (WE.sub (K' := [(0, .slice sa s.length sc), (1, .slice a l.length c), (4, .slice none 0 0), (5, .slice ra17 ((x.2.2 + 1)) rc18), (6, .int .i64 ((((x.2.2 + 1) : Nat) : Int))), (10, .bool ((decide ((((x.2.2 : Nat) : Int) : Int) < (((l.length : Nat) : Int) : Int)))))]) ⟨rfl, rfl, rfl, rfl, rfl, rfl, trivial⟩ ?_)
        refine WE.round ((ra17, rc18, x.2.2 + 1)) ⟨rfl, rfl, rfl, rfl, rfl, trivial⟩ ?_ ?_
        · exact ⟨by (try dsimp only at *); omega, hb19.size, hb19, (by rw [← take_mapL (by (try dsimp only at *); omega)]; exact hG15)⟩
        · dsimp only; omega
    · have h5 : ¬ ((((x.2.2 : Nat) : Int) : Int) < (((l.length : Nat) : Int) : Int)) := by simpa using h5
      refine WC.exit ?_
      refine WE.thenExit ?_
      refine WE.thenExit ?_
      refine WE.blockIs rfl ?_
      refine WE.next ?_
      refine WC.seq ?_
      refine WC.region ?_
      refine WL.val (.slice x.1 x.2.2 x.2.1) rfl rfl rfl (fun za zC zh zk => wp_move rfl (zh.ev rfl) zk) ?_
      refine WL.val (.slice x.1 x.2.2 x.2.1) rfl rfl rfl (fun za zC zh zk => wp_assign rfl (zh.ev rfl) zk) ?_
      refine WL.nil (WE.sub (K' := [(0, .slice sa s.length sc), (1, .slice a l.length c), (4, .slice x.1 x.2.2 x.2.1), (5, .slice x.1 x.2.2 x.2.1), (6, .int .i64 (((x.2.2 : Nat) : Int))), (10, .bool ((decide ((((x.2.2 : Nat) : Int) : Int) < (((l.length : Nat) : Int) : Int)))))]) ⟨rfl, rfl, rfl, rfl, rfl, rfl, trivial⟩ ?_)
      refine WE.next ?_
      refine WC.ret ?_
      refine WE.ret1 rfl rfl ?_
      have z := ho4
      rw [List.take_of_length_le (by omega)] at z
      obtain ⟨e, z⟩ := newC_row (w0 := w) z (by omega)
      exact ⟨_, rfl, ⟨_, _, by rw [← e], z⟩, hb3⟩

/-- So far they are the same. -/
def LqTo (a b : List Li) (k : Nat) : Prop := ∀ i, i < k → lget a i = lget b i
theorem li_eq {x y : Li} (h0 : x.neg = y.neg) (h1 : T.same x.l y.l = true) (h2 : T.same x.r y.r = true) : x = y := by
  obtain ⟨n, t, u⟩ := x; obtain ⟨n', t', u'⟩ := y
  have e1 := (T.same_iff t t').1 h1
  have e2 := (T.same_iff u u').1 h2
  simp only at h0 e1 e2
  rw [h0, e1, e2]
theorem LqTo.step {a b : List Li} {k : Nat} (h : LqTo a b k) (h1 : lget a k = lget b k) : LqTo a b (k + 1) := fun i hi => by
  rcases Nat.lt_or_ge i k with q | q
  · exact h i q
  · obtain rfl : i = k := by omega
    exact h1
theorem clSame_all {a b : List Li} {k : Nat} (hl : a.length = b.length) (h : LqTo a b k) (hk : a.length ≤ k) : clSame a b = true := by
  rw [clSame, decide_eq_true_eq]
  refine List.ext_getElem hl fun i h1 h2 => ?_
  have := h i (by omega)
  rwa [lget_lt h1, lget_lt h2] at this
theorem clSame_len {a b : List Li} (h : a.length ≠ b.length) : clSame a b = false := by
  rw [clSame, decide_eq_false_iff_not]; rintro rfl; exact h rfl
theorem clSame_at {a b : List Li} {k : Nat} (h : ¬ lget a k = lget b k) : clSame a b = false := by
  rw [clSame, decide_eq_false_iff_not]; rintro rfl; exact h rfl
theorem li_dec {x y : Li} {b : Bool} (h : (((x.neg != y.neg) || !T.same x.l y.l) || !T.same x.r y.r) = b) : b = !decide (x = y) := by
  subst h
  rcases hn : (x.neg != y.neg) with _ | _
  · have hn' : x.neg = y.neg := by simpa using hn
    rcases h1 : T.same x.l y.l with _ | _
    · have : ¬ x = y := by rintro rfl; rw [T.same_refl] at h1; cases h1
      simp [this]
    · rcases h2 : T.same x.r y.r with _ | _
      · have : ¬ x = y := by rintro rfl; rw [T.same_refl] at h2; cases h2
        simp [this]
      · simp [li_eq hn' h1 h2]
  · have : ¬ x = y := by rintro rfl; simp at hn
    simp [this]
theorem li_yes {x y : Li} (h : x.neg = y.neg ∧ T.same x.l y.l = true ∧ T.same x.r y.r = true) : x = y := li_eq h.1 h.2.1 h.2.2
theorem li_no {x y : Li} (e : x = y) (h : (¬ x.neg = y.neg ∨ T.same x.l y.l = false) ∨ T.same x.r y.r = false) : False := by
  subst e
  simp [T.same_refl] at h
set_option maxRecDepth 100000 in
theorem same_cl (l1 l2 : List Li) (w : World) (pa pb : Option Addr) (ca cb : Nat) (h1 : l1.length ≤ maxLen) (ha : IsLs w l1 pa) (hb : IsLs w l2 pb) : Calls Try.prog 25 #[.slice pa l1.length ca, .slice pb l2.length cb] w (Ret fun v' w' => v' = .bool (clSame l1 l2) ∧ Below w.heap.size w w') := by
  unfold maxLen at h1
  refine Calls.walk (l := [.slice pa l1.length ca, .slice pb l2.length cb]) Try.func25 rfl (by kernel_rfl) ?_
  refine WC.sub (K' := [(0, .slice pa l1.length ca), (1, .slice pb l2.length cb)]) ⟨rfl, rfl, trivial⟩ ?_
  refine WC.seq ?_
  refine WC.region ?_
  refine WL.val (.bool false) rfl rfl rfl (fun za zC zh zk => wp_assign rfl (zh.ev rfl) zk) ?_
  refine WL.nil (WE.sub (K' := [(0, .slice pa l1.length ca), (1, .slice pb l2.length cb), (4, .bool false)]) ⟨rfl, rfl, rfl, trivial⟩ ?_)
  refine WE.next ?_
  refine WC.seq ?_
  refine WC.seq ?_
  refine WC.region ?_
  refine WL.val (.slice pa l1.length ca) rfl rfl rfl (fun za zC zh zk => wp_move rfl (zh.ev rfl) zk) ?_
  refine WL.val (.int .i64 (((l1.length : Nat) : Int))) rfl rfl rfl (fun za zC zh zk => len_42 rfl (zh.ev rfl) zk) ?_
  refine WL.val (.slice pb l2.length cb) rfl rfl rfl (fun za zC zh zk => wp_move rfl (zh.ev rfl) zk) ?_
  refine WL.val (.int .i64 (((l2.length : Nat) : Int))) rfl rfl rfl (fun za zC zh zk => len_42 rfl (zh.ev rfl) zk) ?_
  refine WL.val (.bool (((((l1.length : Nat) : Int) : Int) != (((l2.length : Nat) : Int) : Int)))) rfl rfl rfl (fun za zC zh zk => neq_3 rfl (zh.ev rfl) (zh.ev rfl) zk) ?_
  refine WL.nil (WE.sub (K' := [(0, .slice pa l1.length ca), (1, .slice pb l2.length cb), (4, .bool false), (10, .bool (((((l1.length : Nat) : Int) : Int) != (((l2.length : Nat) : Int) : Int))))]) ⟨rfl, rfl, rfl, rfl, trivial⟩ ?_)
  refine WE.next ?_
  refine WC.cond rfl (fun h1 => ?_) (fun h1 => ?_)
  · have h1 : (((l1.length : Nat) : Int) : Int) ≠ (((l2.length : Nat) : Int) : Int) := by simpa using h1
    refine WC.seq ?_
    refine WC.region ?_
    refine WL.val (.bool false) rfl rfl rfl (fun za zC zh zk => wp_assign rfl (zh.ev rfl) zk) ?_
    refine WL.nil (WE.sub (K' := [(0, .slice pa l1.length ca), (1, .slice pb l2.length cb), (4, .bool false), (10, .bool (((((l1.length : Nat) : Int) : Int) != (((l2.length : Nat) : Int) : Int))))]) ⟨rfl, rfl, rfl, rfl, trivial⟩ ?_)
    refine WE.next ?_
    refine WC.ret ?_
    refine WE.thenRet ?_
    refine WE.ret1 rfl rfl ?_
    exact ⟨_, rfl, congrArg Value.bool (Eq.symm (clSame_len (by omega))), (Below.refl _ _)⟩
  · have h1 : ¬ ((((l1.length : Nat) : Int) : Int) ≠ (((l2.length : Nat) : Int) : Int)) := by simpa using h1
    refine WC.skip ?_
    refine WE.next ?_
    refine WC.seq ?_
    refine WC.seq ?_
    refine WC.region ?_
    refine WL.val (.slice pa l1.length ca) rfl rfl rfl (fun za zC zh zk => wp_move rfl (zh.ev rfl) zk) ?_
    refine WL.val (.int .i64 (((l1.length : Nat) : Int))) rfl rfl rfl (fun za zC zh zk => len_42 rfl (zh.ev rfl) zk) ?_
    refine WL.val (.int .i64 0) rfl rfl rfl (fun za zC zh zk => wp_move rfl (zh.ev rfl) zk) ?_
    refine WL.nil (WE.sub (K' := [(0, .slice pa l1.length ca), (1, .slice pb l2.length cb), (4, .bool false), (10, .bool (((((l1.length : Nat) : Int) : Int) != (((l2.length : Nat) : Int) : Int)))), (12, .int .i64 (((l1.length : Nat) : Int))), (13, .int .i64 0)]) ⟨rfl, rfl, rfl, rfl, rfl, rfl, trivial⟩ ?_)
    refine WE.next ?_
    refine WC.block ?_
    have hlen : l1.length = l2.length := by omega
    refine WC.loop (X := Nat) (fun k => l1.length - k) (fun k => [(0, .slice pa l1.length ca), (1, .slice pb l2.length cb), (10, .bool (((((l1.length : Nat) : Int) : Int) != (((l2.length : Nat) : Int) : Int)))), (12, .int .i64 (((l1.length : Nat) : Int))), (13, .int .i64 (((k : Nat) : Int)))]) (fun k w2 => k ≤ l1.length ∧ LqTo l1 l2 k ∧ Below w.heap.size w w2) 0 ⟨rfl, rfl, rfl, rfl, rfl, trivial⟩ ?_ ?_
    · exact ⟨Nat.zero_le _, fun i h => absurd h (Nat.not_lt_zero i), (Below.refl _ _)⟩
    · rintro k w2 ⟨hk, hE, hb3⟩
      refine WC.seq ?_
      refine WC.region ?_
      refine WL.val (.bool ((decide ((((k : Nat) : Int) : Int) < (((l1.length : Nat) : Int) : Int))))) rfl rfl rfl (fun za zC zh zk => lss_3 rfl (zh.ev rfl) (zh.ev rfl) zk) ?_
      refine WL.nil (WE.sub (K' := [(0, .slice pa l1.length ca), (1, .slice pb l2.length cb), (10, .bool (((((l1.length : Nat) : Int) : Int) != (((l2.length : Nat) : Int) : Int)))), (12, .int .i64 (((l1.length : Nat) : Int))), (13, .int .i64 (((k : Nat) : Int))), (14, .bool ((decide ((((k : Nat) : Int) : Int) < (((l1.length : Nat) : Int) : Int)))))]) ⟨rfl, rfl, rfl, rfl, rfl, rfl, trivial⟩ ?_)
      refine WE.next ?_
      refine WC.seq ?_
      refine WC.cond rfl (fun h4 => ?_) (fun h4 => ?_)
      · have h4 : (((k : Nat) : Int) : Int) < (((l1.length : Nat) : Int) : Int) := by simpa using h4
        refine WC.skip ?_
        refine WE.next ?_
        refine WC.seq ?_
        refine WC.block ?_
        refine WC.seq ?_
        refine WC.region ?_
        refine WL.val (.int .i64 (((k : Nat) : Int))) rfl rfl rfl (fun za zC zh zk => wp_move rfl (zh.ev rfl) zk) ?_
        refine WL.val (.int .i64 (((k : Nat) : Int))) rfl rfl rfl (fun za zC zh zk => wp_assign rfl (zh.ev rfl) zk) ?_
        refine WL.nil (WE.sub (K' := [(0, .slice pa l1.length ca), (1, .slice pb l2.length cb), (5, .int .i64 (((k : Nat) : Int))), (10, .bool (((((l1.length : Nat) : Int) : Int) != (((l2.length : Nat) : Int) : Int)))), (12, .int .i64 (((l1.length : Nat) : Int))), (13, .int .i64 (((k : Nat) : Int))), (14, .bool ((decide ((((k : Nat) : Int) : Int) < (((l1.length : Nat) : Int) : Int)))))]) ⟨rfl, rfl, rfl, rfl, rfl, rfl, rfl, trivial⟩ ?_)
        refine WE.next ?_
        refine WC.seq ?_
        obtain ⟨b5, o6, A7, C8, A9, C10, ha11, hc12⟩ := InRow.openL ha
        obtain ⟨b13, o14, A15, C16, A17, C18, ha19, hc20⟩ := InRow.openL hb
        refine WC.opt [(true, .val (.slice pa l1.length ca)), (true, .val (.int .i64 (((k : Nat) : Int)))), (true, .val (.pointer (some ⟨b5, o6 + k * 5, none⟩))), (true, .val (.pointer (some ⟨b5, o6 + k * 5, none⟩))), (true, .val (.bool ((lget l1 k).neg))), (true, .val (.slice pb l2.length cb)), (true, .val (.int .i64 (((k : Nat) : Int)))), (true, .val (.pointer (some ⟨b13, o14 + k * 5, none⟩))), (true, .val (.pointer (some ⟨b13, o14 + k * 5, none⟩))), (true, .val (.bool ((lget l2 k).neg))), (true, .val (.bool (((lget l1 k).neg != (lget l2 k).neg)))), (true, .val (.bool (((lget l1 k).neg != (lget l2 k).neg)))), ((true && !((lget l1 k).neg != (lget l2 k).neg)), .val (.slice pa l1.length ca)), ((true && !((lget l1 k).neg != (lget l2 k).neg)), .val (.int .i64 (((k : Nat) : Int)))), ((true && !((lget l1 k).neg != (lget l2 k).neg)), .val (.pointer (some ⟨b5, o6 + k * 5, none⟩))), ((true && !((lget l1 k).neg != (lget l2 k).neg)), .val (.pointer (some ⟨b5, o6 + k * 5 + 1, none⟩))), ((true && !((lget l1 k).neg != (lget l2 k).neg)), .val (.agg #[.int .i64 ((lget l1 k).l.f), .slice ((A7 k)) ((lget l1 k).l.args.length) ((C8 k))])), ((true && !((lget l1 k).neg != (lget l2 k).neg)), .val (.slice pb l2.length cb)), ((true && !((lget l1 k).neg != (lget l2 k).neg)), .val (.int .i64 (((k : Nat) : Int)))), ((true && !((lget l1 k).neg != (lget l2 k).neg)), .val (.pointer (some ⟨b13, o14 + k * 5, none⟩))), ((true && !((lget l1 k).neg != (lget l2 k).neg)), .val (.pointer (some ⟨b13, o14 + k * 5 + 1, none⟩))), ((true && !((lget l1 k).neg != (lget l2 k).neg)), .val (.agg #[.int .i64 ((lget l2 k).l.f), .slice ((A15 k)) ((lget l2 k).l.args.length) ((C16 k))])), ((true && !((lget l1 k).neg != (lget l2 k).neg)), .val (.bool ((T.same (lget l1 k).l (lget l2 k).l)))), ((true && !((lget l1 k).neg != (lget l2 k).neg)), .val (.bool ((!(T.same (lget l1 k).l (lget l2 k).l))))), (true, .val (.bool ((((lget l1 k).neg != (lget l2 k).neg) || (!(T.same (lget l1 k).l (lget l2 k).l)))))), (true, .val (.bool ((((lget l1 k).neg != (lget l2 k).neg) || (!(T.same (lget l1 k).l (lget l2 k).l)))))), ((true && !(((lget l1 k).neg != (lget l2 k).neg) || (!(T.same (lget l1 k).l (lget l2 k).l)))), .val (.slice pa l1.length ca)), ((true && !(((lget l1 k).neg != (lget l2 k).neg) || (!(T.same (lget l1 k).l (lget l2 k).l)))), .val (.int .i64 (((k : Nat) : Int)))), ((true && !(((lget l1 k).neg != (lget l2 k).neg) || (!(T.same (lget l1 k).l (lget l2 k).l)))), .val (.pointer (some ⟨b5, o6 + k * 5, none⟩))), ((true && !(((lget l1 k).neg != (lget l2 k).neg) || (!(T.same (lget l1 k).l (lget l2 k).l)))), .val (.pointer (some ⟨b5, o6 + k * 5 + 3, none⟩))), ((true && !(((lget l1 k).neg != (lget l2 k).neg) || (!(T.same (lget l1 k).l (lget l2 k).l)))), .val (.agg #[.int .i64 ((lget l1 k).r.f), .slice ((A9 k)) ((lget l1 k).r.args.length) ((C10 k))])), ((true && !(((lget l1 k).neg != (lget l2 k).neg) || (!(T.same (lget l1 k).l (lget l2 k).l)))), .val (.slice pb l2.length cb)), ((true && !(((lget l1 k).neg != (lget l2 k).neg) || (!(T.same (lget l1 k).l (lget l2 k).l)))), .val (.int .i64 (((k : Nat) : Int)))), ((true && !(((lget l1 k).neg != (lget l2 k).neg) || (!(T.same (lget l1 k).l (lget l2 k).l)))), .val (.pointer (some ⟨b13, o14 + k * 5, none⟩))), ((true && !(((lget l1 k).neg != (lget l2 k).neg) || (!(T.same (lget l1 k).l (lget l2 k).l)))), .val (.pointer (some ⟨b13, o14 + k * 5 + 3, none⟩))), ((true && !(((lget l1 k).neg != (lget l2 k).neg) || (!(T.same (lget l1 k).l (lget l2 k).l)))), .val (.agg #[.int .i64 ((lget l2 k).r.f), .slice ((A17 k)) ((lget l2 k).r.args.length) ((C18 k))])), ((true && !(((lget l1 k).neg != (lget l2 k).neg) || (!(T.same (lget l1 k).l (lget l2 k).l)))), .val (.bool ((T.same (lget l1 k).r (lget l2 k).r)))), ((true && !(((lget l1 k).neg != (lget l2 k).neg) || (!(T.same (lget l1 k).l (lget l2 k).l)))), .val (.bool ((!(T.same (lget l1 k).r (lget l2 k).r))))), (true, .val (.bool (((((lget l1 k).neg != (lget l2 k).neg) || (!(T.same (lget l1 k).l (lget l2 k).l))) || (!(T.same (lget l1 k).r (lget l2 k).r))))))] [(0, .slice pa l1.length ca), (1, .slice pb l2.length cb), (5, .int .i64 (((k : Nat) : Int))), (10, .bool (((((l1.length : Nat) : Int) : Int) != (((l2.length : Nat) : Int) : Int)))), (12, .int .i64 (((l1.length : Nat) : Int))), (13, .int .i64 (((k : Nat) : Int))), (14, .bool ((decide ((((k : Nat) : Int) : Int) < (((l1.length : Nat) : Int) : Int)))))] ⟨rfl, rfl, rfl, rfl, rfl, rfl, rfl, trivial⟩ (by kernel_rfl) (by kernel_rfl) (by kernel_rfl) ?_ ?_
        · refine ⟨⟨true, .none rfl, fun h w => optUndef h, fun zβ za zw zc => ?_⟩, ?_⟩
          · exact wp_move rfl (zc.kn.ev rfl) ⟨_, rfl, Below.refl _ _, optDef zβ rfl⟩
          refine ⟨⟨true, .none rfl, fun h w => optUndef h, fun zβ za zw zc => ?_⟩, ?_⟩
          · exact wp_move rfl (zc.kn.ev rfl) ⟨_, rfl, Below.refl _ _, optDef zβ rfl⟩
          refine ⟨⟨true, .none rfl, fun h w => optUndef h, fun zβ za zw zc => ?_⟩, ?_⟩
          · exact ix_42 (k := k) rfl ((show za.eval (.tmp 16) = za.tmps.getD 16 undef from rfl).trans (optVal (zc.dep 0 16 (by kernel_rfl)) rfl rfl)) (ha11 k (by first | omega | (simp; omega))) ((show za.eval (.tmp 17) = za.tmps.getD 17 undef from rfl).trans (optVal (zc.dep 1 17 (by kernel_rfl)) rfl rfl)) (by first | omega | (simp; omega)) ⟨_, rfl, Below.refl _ _, optDef zβ rfl⟩
          refine ⟨⟨true, .none rfl, fun h w => optUndef h, fun zβ za zw zc => ?_⟩, ?_⟩
          · exact fld_44_0 rfl ((show za.eval (.tmp 18) = za.tmps.getD 18 undef from rfl).trans (optVal (zc.dep 2 18 (by kernel_rfl)) rfl rfl)) ⟨_, rfl, Below.refl _ _, optDef zβ rfl⟩
          refine ⟨⟨true, .none rfl, fun h w => optUndef h, fun zβ za zw zc => ?_⟩, ?_⟩
          · exact ld_4 rfl ((show za.eval (.tmp 19) = za.tmps.getD 19 undef from rfl).trans (optVal (zc.dep 3 19 (by kernel_rfl)) rfl rfl)) (bkeeps (bstep hb3 zc.below) _ _ (hc12 k (by first | omega | (simp; omega))).1) ⟨_, rfl, Below.refl _ _, optDef zβ rfl⟩
          refine ⟨⟨true, .none rfl, fun h w => optUndef h, fun zβ za zw zc => ?_⟩, ?_⟩
          · exact wp_move rfl (zc.kn.ev rfl) ⟨_, rfl, Below.refl _ _, optDef zβ rfl⟩
          refine ⟨⟨true, .none rfl, fun h w => optUndef h, fun zβ za zw zc => ?_⟩, ?_⟩
          · exact wp_move rfl (zc.kn.ev rfl) ⟨_, rfl, Below.refl _ _, optDef zβ rfl⟩
          refine ⟨⟨true, .none rfl, fun h w => optUndef h, fun zβ za zw zc => ?_⟩, ?_⟩
          · exact ix_42 (k := k) rfl ((show za.eval (.tmp 21) = za.tmps.getD 21 undef from rfl).trans (optVal (zc.dep 5 21 (by kernel_rfl)) rfl rfl)) (ha19 k (by first | omega | (simp; omega))) ((show za.eval (.tmp 22) = za.tmps.getD 22 undef from rfl).trans (optVal (zc.dep 6 22 (by kernel_rfl)) rfl rfl)) (by first | omega | (simp; omega)) ⟨_, rfl, Below.refl _ _, optDef zβ rfl⟩
          refine ⟨⟨true, .none rfl, fun h w => optUndef h, fun zβ za zw zc => ?_⟩, ?_⟩
          · exact fld_44_0 rfl ((show za.eval (.tmp 23) = za.tmps.getD 23 undef from rfl).trans (optVal (zc.dep 7 23 (by kernel_rfl)) rfl rfl)) ⟨_, rfl, Below.refl _ _, optDef zβ rfl⟩
          refine ⟨⟨true, .none rfl, fun h w => optUndef h, fun zβ za zw zc => ?_⟩, ?_⟩
          · exact ld_4 rfl ((show za.eval (.tmp 24) = za.tmps.getD 24 undef from rfl).trans (optVal (zc.dep 8 24 (by kernel_rfl)) rfl rfl)) (bkeeps (bstep hb3 zc.below) _ _ (hc20 k (by first | omega | (simp; omega))).1) ⟨_, rfl, Below.refl _ _, optDef zβ rfl⟩
          refine ⟨⟨true, .none rfl, fun h w => optUndef h, fun zβ za zw zc => ?_⟩, ?_⟩
          · exact neq_4 rfl ((show za.eval (.tmp 20) = za.tmps.getD 20 undef from rfl).trans (optVal (zc.dep 4 20 (by kernel_rfl)) rfl rfl)) ((show za.eval (.tmp 25) = za.tmps.getD 25 undef from rfl).trans (optVal (zc.dep 9 25 (by kernel_rfl)) rfl rfl)) ⟨_, rfl, Below.refl _ _, optDef zβ rfl⟩
          refine ⟨⟨true, .none rfl, fun h w => optUndef h, fun zβ za zw zc => ?_⟩, ?_⟩
          · exact wp_move rfl ((show za.eval (.tmp 26) = za.tmps.getD 26 undef from rfl).trans (optVal (zc.dep 10 26 (by kernel_rfl)) rfl rfl)) ⟨_, rfl, Below.refl _ _, optDef zβ rfl⟩
          refine ⟨⟨(true && !((lget l1 k).neg != (lget l2 k).neg)), .no (c := ((lget l1 k).neg != (lget l2 k).neg)) (d := true) rfl (fun v w h => h), fun h w => optUndef h, fun zβ za zw zc => ?_⟩, ?_⟩
          · exact wp_move rfl (zc.kn.ev rfl) ⟨_, rfl, Below.refl _ _, optDef zβ rfl⟩
          refine ⟨⟨(true && !((lget l1 k).neg != (lget l2 k).neg)), .no (c := ((lget l1 k).neg != (lget l2 k).neg)) (d := true) rfl (fun v w h => h), fun h w => optUndef h, fun zβ za zw zc => ?_⟩, ?_⟩
          · exact wp_move rfl (zc.kn.ev rfl) ⟨_, rfl, Below.refl _ _, optDef zβ rfl⟩
          refine ⟨⟨(true && !((lget l1 k).neg != (lget l2 k).neg)), .no (c := ((lget l1 k).neg != (lget l2 k).neg)) (d := true) rfl (fun v w h => h), fun h w => optUndef h, fun zβ za zw zc => ?_⟩, ?_⟩
          · exact ix_42 (k := k) rfl ((show za.eval (.tmp 28) = za.tmps.getD 28 undef from rfl).trans (optVal (zc.dep 12 28 (by kernel_rfl)) rfl zβ)) (ha11 k (by first | omega | (have zz := zβ; simp only [Bool.and_eq_true, Bool.or_eq_true, Bool.true_and, Bool.not_eq_true', Bool.or_eq_false_iff, Bool.and_eq_false_iff, beq_eq_false_iff_ne, ne_eq, beq_iff_eq, decide_eq_true_eq, decide_eq_false_iff_not, bne_iff_ne] at zz; omega))) ((show za.eval (.tmp 29) = za.tmps.getD 29 undef from rfl).trans (optVal (zc.dep 13 29 (by kernel_rfl)) rfl zβ)) (by first | omega | (have zz := zβ; simp only [Bool.and_eq_true, Bool.or_eq_true, Bool.true_and, Bool.not_eq_true', Bool.or_eq_false_iff, Bool.and_eq_false_iff, beq_eq_false_iff_ne, ne_eq, beq_iff_eq, decide_eq_true_eq, decide_eq_false_iff_not, bne_iff_ne] at zz; omega)) ⟨_, rfl, Below.refl _ _, optDef zβ rfl⟩
          refine ⟨⟨(true && !((lget l1 k).neg != (lget l2 k).neg)), .no (c := ((lget l1 k).neg != (lget l2 k).neg)) (d := true) rfl (fun v w h => h), fun h w => optUndef h, fun zβ za zw zc => ?_⟩, ?_⟩
          · exact fld_44_1 rfl ((show za.eval (.tmp 30) = za.tmps.getD 30 undef from rfl).trans (optVal (zc.dep 14 30 (by kernel_rfl)) rfl zβ)) ⟨_, rfl, Below.refl _ _, optDef zβ rfl⟩
          refine ⟨⟨(true && !((lget l1 k).neg != (lget l2 k).neg)), .no (c := ((lget l1 k).neg != (lget l2 k).neg)) (d := true) rfl (fun v w h => h), fun h w => optUndef h, fun zβ za zw zc => ?_⟩, ?_⟩
          · exact ld_32 rfl ((show za.eval (.tmp 31) = za.tmps.getD 31 undef from rfl).trans (optVal (zc.dep 15 31 (by kernel_rfl)) rfl zβ)) (bkeeps (bstep hb3 zc.below) _ _ (hc12 k (by first | omega | (have zz := zβ; simp only [Bool.and_eq_true, Bool.or_eq_true, Bool.true_and, Bool.not_eq_true', Bool.or_eq_false_iff, Bool.and_eq_false_iff, beq_eq_false_iff_ne, ne_eq, beq_iff_eq, decide_eq_true_eq, decide_eq_false_iff_not, bne_iff_ne] at zz; omega))).2.1) (bkeeps (bstep hb3 zc.below) _ _ (hc12 k (by first | omega | (have zz := zβ; simp only [Bool.and_eq_true, Bool.or_eq_true, Bool.true_and, Bool.not_eq_true', Bool.or_eq_false_iff, Bool.and_eq_false_iff, beq_eq_false_iff_ne, ne_eq, beq_iff_eq, decide_eq_true_eq, decide_eq_false_iff_not, bne_iff_ne] at zz; omega))).2.2.1) ⟨_, rfl, Below.refl _ _, optDef zβ rfl⟩
          refine ⟨⟨(true && !((lget l1 k).neg != (lget l2 k).neg)), .no (c := ((lget l1 k).neg != (lget l2 k).neg)) (d := true) rfl (fun v w h => h), fun h w => optUndef h, fun zβ za zw zc => ?_⟩, ?_⟩
          · exact wp_move rfl (zc.kn.ev rfl) ⟨_, rfl, Below.refl _ _, optDef zβ rfl⟩
          refine ⟨⟨(true && !((lget l1 k).neg != (lget l2 k).neg)), .no (c := ((lget l1 k).neg != (lget l2 k).neg)) (d := true) rfl (fun v w h => h), fun h w => optUndef h, fun zβ za zw zc => ?_⟩, ?_⟩
          · exact wp_move rfl (zc.kn.ev rfl) ⟨_, rfl, Below.refl _ _, optDef zβ rfl⟩
          refine ⟨⟨(true && !((lget l1 k).neg != (lget l2 k).neg)), .no (c := ((lget l1 k).neg != (lget l2 k).neg)) (d := true) rfl (fun v w h => h), fun h w => optUndef h, fun zβ za zw zc => ?_⟩, ?_⟩
          · exact ix_42 (k := k) rfl ((show za.eval (.tmp 33) = za.tmps.getD 33 undef from rfl).trans (optVal (zc.dep 17 33 (by kernel_rfl)) rfl zβ)) (ha19 k (by first | omega | (have zz := zβ; simp only [Bool.and_eq_true, Bool.or_eq_true, Bool.true_and, Bool.not_eq_true', Bool.or_eq_false_iff, Bool.and_eq_false_iff, beq_eq_false_iff_ne, ne_eq, beq_iff_eq, decide_eq_true_eq, decide_eq_false_iff_not, bne_iff_ne] at zz; omega))) ((show za.eval (.tmp 34) = za.tmps.getD 34 undef from rfl).trans (optVal (zc.dep 18 34 (by kernel_rfl)) rfl zβ)) (by first | omega | (have zz := zβ; simp only [Bool.and_eq_true, Bool.or_eq_true, Bool.true_and, Bool.not_eq_true', Bool.or_eq_false_iff, Bool.and_eq_false_iff, beq_eq_false_iff_ne, ne_eq, beq_iff_eq, decide_eq_true_eq, decide_eq_false_iff_not, bne_iff_ne] at zz; omega)) ⟨_, rfl, Below.refl _ _, optDef zβ rfl⟩
          refine ⟨⟨(true && !((lget l1 k).neg != (lget l2 k).neg)), .no (c := ((lget l1 k).neg != (lget l2 k).neg)) (d := true) rfl (fun v w h => h), fun h w => optUndef h, fun zβ za zw zc => ?_⟩, ?_⟩
          · exact fld_44_1 rfl ((show za.eval (.tmp 35) = za.tmps.getD 35 undef from rfl).trans (optVal (zc.dep 19 35 (by kernel_rfl)) rfl zβ)) ⟨_, rfl, Below.refl _ _, optDef zβ rfl⟩
          refine ⟨⟨(true && !((lget l1 k).neg != (lget l2 k).neg)), .no (c := ((lget l1 k).neg != (lget l2 k).neg)) (d := true) rfl (fun v w h => h), fun h w => optUndef h, fun zβ za zw zc => ?_⟩, ?_⟩
          · exact ld_32 rfl ((show za.eval (.tmp 36) = za.tmps.getD 36 undef from rfl).trans (optVal (zc.dep 20 36 (by kernel_rfl)) rfl zβ)) (bkeeps (bstep hb3 zc.below) _ _ (hc20 k (by first | omega | (have zz := zβ; simp only [Bool.and_eq_true, Bool.or_eq_true, Bool.true_and, Bool.not_eq_true', Bool.or_eq_false_iff, Bool.and_eq_false_iff, beq_eq_false_iff_ne, ne_eq, beq_iff_eq, decide_eq_true_eq, decide_eq_false_iff_not, bne_iff_ne] at zz; omega))).2.1) (bkeeps (bstep hb3 zc.below) _ _ (hc20 k (by first | omega | (have zz := zβ; simp only [Bool.and_eq_true, Bool.or_eq_true, Bool.true_and, Bool.not_eq_true', Bool.or_eq_false_iff, Bool.and_eq_false_iff, beq_eq_false_iff_ne, ne_eq, beq_iff_eq, decide_eq_true_eq, decide_eq_false_iff_not, bne_iff_ne] at zz; omega))).2.2.1) ⟨_, rfl, Below.refl _ _, optDef zβ rfl⟩
          refine ⟨⟨(true && !((lget l1 k).neg != (lget l2 k).neg)), .no (c := ((lget l1 k).neg != (lget l2 k).neg)) (d := true) rfl (fun v w h => h), fun h w => optUndef h, fun zβ za zw zc => ?_⟩, ?_⟩
          · exact wp_call (by kernel_rfl) rfl (hv2 ((show za.eval (.tmp 32) = za.tmps.getD 32 undef from rfl).trans (optVal (zc.dep 16 32 (by kernel_rfl)) rfl zβ)) ((show za.eval (.tmp 37) = za.tmps.getD 37 undef from rfl).trans (optVal (zc.dep 21 37 (by kernel_rfl)) rfl zβ))) (ret_of (rsame_any _ _ _ _ _ (IsT.below (bstep hb3 zc.below) (InT.isT (hc12 k (by first | omega | (have zz := zβ; simp only [Bool.and_eq_true, Bool.or_eq_true, Bool.true_and, Bool.not_eq_true', Bool.or_eq_false_iff, Bool.and_eq_false_iff, beq_eq_false_iff_ne, ne_eq, beq_iff_eq, decide_eq_true_eq, decide_eq_false_iff_not, bne_iff_ne] at zz; omega))).2.2.2.2.2.1)) (IsT.below (bstep hb3 zc.below) (InT.isT (hc20 k (by first | omega | (have zz := zβ; simp only [Bool.and_eq_true, Bool.or_eq_true, Bool.true_and, Bool.not_eq_true', Bool.or_eq_false_iff, Bool.and_eq_false_iff, beq_eq_false_iff_ne, ne_eq, beq_iff_eq, decide_eq_true_eq, decide_eq_false_iff_not, bne_iff_ne] at zz; omega))).2.2.2.2.2.1)))) (fun v w' h => ⟨v, rfl, h.2, optDef zβ h.1⟩)
          refine ⟨⟨(true && !((lget l1 k).neg != (lget l2 k).neg)), .no (c := ((lget l1 k).neg != (lget l2 k).neg)) (d := true) rfl (fun v w h => h), fun h w => optUndef h, fun zβ za zw zc => ?_⟩, ?_⟩
          · exact wp_not rfl ((show za.eval (.tmp 38) = za.tmps.getD 38 undef from rfl).trans (optVal (zc.dep 22 38 (by kernel_rfl)) rfl zβ)) ⟨_, rfl, Below.refl _ _, optDef zβ rfl⟩
          refine ⟨⟨true, .none rfl, fun h w => optUndef h, fun zβ za zw zc => ?_⟩, ?_⟩
          · exact wp_or rfl ((show za.eval (.tmp 27) = za.tmps.getD 27 undef from rfl).trans (optVal (zc.dep 11 27 (by kernel_rfl)) rfl rfl)) (fun hp => ((show za.eval (.tmp 39) = za.tmps.getD 39 undef from rfl).trans (optVal (zc.dep 23 39 (by kernel_rfl)) rfl (bMkN zβ hp)))) ⟨_, rfl, Below.refl _ _, optDef zβ rfl⟩
          refine ⟨⟨true, .none rfl, fun h w => optUndef h, fun zβ za zw zc => ?_⟩, ?_⟩
          · exact wp_move rfl ((show za.eval (.tmp 40) = za.tmps.getD 40 undef from rfl).trans (optVal (zc.dep 24 40 (by kernel_rfl)) rfl rfl)) ⟨_, rfl, Below.refl _ _, optDef zβ rfl⟩
          refine ⟨⟨(true && !(((lget l1 k).neg != (lget l2 k).neg) || (!(T.same (lget l1 k).l (lget l2 k).l)))), .no (c := (((lget l1 k).neg != (lget l2 k).neg) || (!(T.same (lget l1 k).l (lget l2 k).l)))) (d := true) rfl (fun v w h => h), fun h w => optUndef h, fun zβ za zw zc => ?_⟩, ?_⟩
          · exact wp_move rfl (zc.kn.ev rfl) ⟨_, rfl, Below.refl _ _, optDef zβ rfl⟩
          refine ⟨⟨(true && !(((lget l1 k).neg != (lget l2 k).neg) || (!(T.same (lget l1 k).l (lget l2 k).l)))), .no (c := (((lget l1 k).neg != (lget l2 k).neg) || (!(T.same (lget l1 k).l (lget l2 k).l)))) (d := true) rfl (fun v w h => h), fun h w => optUndef h, fun zβ za zw zc => ?_⟩, ?_⟩
          · exact wp_move rfl (zc.kn.ev rfl) ⟨_, rfl, Below.refl _ _, optDef zβ rfl⟩
          refine ⟨⟨(true && !(((lget l1 k).neg != (lget l2 k).neg) || (!(T.same (lget l1 k).l (lget l2 k).l)))), .no (c := (((lget l1 k).neg != (lget l2 k).neg) || (!(T.same (lget l1 k).l (lget l2 k).l)))) (d := true) rfl (fun v w h => h), fun h w => optUndef h, fun zβ za zw zc => ?_⟩, ?_⟩
          · exact ix_42 (k := k) rfl ((show za.eval (.tmp 42) = za.tmps.getD 42 undef from rfl).trans (optVal (zc.dep 26 42 (by kernel_rfl)) rfl zβ)) (ha11 k (by first | omega | (have zz := zβ; simp only [Bool.and_eq_true, Bool.or_eq_true, Bool.true_and, Bool.not_eq_true', Bool.or_eq_false_iff, Bool.and_eq_false_iff, beq_eq_false_iff_ne, ne_eq, beq_iff_eq, decide_eq_true_eq, decide_eq_false_iff_not, bne_iff_ne] at zz; omega))) ((show za.eval (.tmp 43) = za.tmps.getD 43 undef from rfl).trans (optVal (zc.dep 27 43 (by kernel_rfl)) rfl zβ)) (by first | omega | (have zz := zβ; simp only [Bool.and_eq_true, Bool.or_eq_true, Bool.true_and, Bool.not_eq_true', Bool.or_eq_false_iff, Bool.and_eq_false_iff, beq_eq_false_iff_ne, ne_eq, beq_iff_eq, decide_eq_true_eq, decide_eq_false_iff_not, bne_iff_ne] at zz; omega)) ⟨_, rfl, Below.refl _ _, optDef zβ rfl⟩
          refine ⟨⟨(true && !(((lget l1 k).neg != (lget l2 k).neg) || (!(T.same (lget l1 k).l (lget l2 k).l)))), .no (c := (((lget l1 k).neg != (lget l2 k).neg) || (!(T.same (lget l1 k).l (lget l2 k).l)))) (d := true) rfl (fun v w h => h), fun h w => optUndef h, fun zβ za zw zc => ?_⟩, ?_⟩
          · exact fld_44_2 rfl ((show za.eval (.tmp 44) = za.tmps.getD 44 undef from rfl).trans (optVal (zc.dep 28 44 (by kernel_rfl)) rfl zβ)) ⟨_, rfl, Below.refl _ _, optDef zβ rfl⟩
          refine ⟨⟨(true && !(((lget l1 k).neg != (lget l2 k).neg) || (!(T.same (lget l1 k).l (lget l2 k).l)))), .no (c := (((lget l1 k).neg != (lget l2 k).neg) || (!(T.same (lget l1 k).l (lget l2 k).l)))) (d := true) rfl (fun v w h => h), fun h w => optUndef h, fun zβ za zw zc => ?_⟩, ?_⟩
          · exact ld_32 rfl ((show za.eval (.tmp 45) = za.tmps.getD 45 undef from rfl).trans (optVal (zc.dep 29 45 (by kernel_rfl)) rfl zβ)) (bkeeps (bstep hb3 zc.below) _ _ (hc12 k (by first | omega | (have zz := zβ; simp only [Bool.and_eq_true, Bool.or_eq_true, Bool.true_and, Bool.not_eq_true', Bool.or_eq_false_iff, Bool.and_eq_false_iff, beq_eq_false_iff_ne, ne_eq, beq_iff_eq, decide_eq_true_eq, decide_eq_false_iff_not, bne_iff_ne] at zz; omega))).2.2.2.1) (bkeeps (bstep hb3 zc.below) _ _ (hc12 k (by first | omega | (have zz := zβ; simp only [Bool.and_eq_true, Bool.or_eq_true, Bool.true_and, Bool.not_eq_true', Bool.or_eq_false_iff, Bool.and_eq_false_iff, beq_eq_false_iff_ne, ne_eq, beq_iff_eq, decide_eq_true_eq, decide_eq_false_iff_not, bne_iff_ne] at zz; omega))).2.2.2.2.1) ⟨_, rfl, Below.refl _ _, optDef zβ rfl⟩
          refine ⟨⟨(true && !(((lget l1 k).neg != (lget l2 k).neg) || (!(T.same (lget l1 k).l (lget l2 k).l)))), .no (c := (((lget l1 k).neg != (lget l2 k).neg) || (!(T.same (lget l1 k).l (lget l2 k).l)))) (d := true) rfl (fun v w h => h), fun h w => optUndef h, fun zβ za zw zc => ?_⟩, ?_⟩
          · exact wp_move rfl (zc.kn.ev rfl) ⟨_, rfl, Below.refl _ _, optDef zβ rfl⟩
          refine ⟨⟨(true && !(((lget l1 k).neg != (lget l2 k).neg) || (!(T.same (lget l1 k).l (lget l2 k).l)))), .no (c := (((lget l1 k).neg != (lget l2 k).neg) || (!(T.same (lget l1 k).l (lget l2 k).l)))) (d := true) rfl (fun v w h => h), fun h w => optUndef h, fun zβ za zw zc => ?_⟩, ?_⟩
          · exact wp_move rfl (zc.kn.ev rfl) ⟨_, rfl, Below.refl _ _, optDef zβ rfl⟩
          refine ⟨⟨(true && !(((lget l1 k).neg != (lget l2 k).neg) || (!(T.same (lget l1 k).l (lget l2 k).l)))), .no (c := (((lget l1 k).neg != (lget l2 k).neg) || (!(T.same (lget l1 k).l (lget l2 k).l)))) (d := true) rfl (fun v w h => h), fun h w => optUndef h, fun zβ za zw zc => ?_⟩, ?_⟩
          · exact ix_42 (k := k) rfl ((show za.eval (.tmp 47) = za.tmps.getD 47 undef from rfl).trans (optVal (zc.dep 31 47 (by kernel_rfl)) rfl zβ)) (ha19 k (by first | omega | (have zz := zβ; simp only [Bool.and_eq_true, Bool.or_eq_true, Bool.true_and, Bool.not_eq_true', Bool.or_eq_false_iff, Bool.and_eq_false_iff, beq_eq_false_iff_ne, ne_eq, beq_iff_eq, decide_eq_true_eq, decide_eq_false_iff_not, bne_iff_ne] at zz; omega))) ((show za.eval (.tmp 48) = za.tmps.getD 48 undef from rfl).trans (optVal (zc.dep 32 48 (by kernel_rfl)) rfl zβ)) (by first | omega | (have zz := zβ; simp only [Bool.and_eq_true, Bool.or_eq_true, Bool.true_and, Bool.not_eq_true', Bool.or_eq_false_iff, Bool.and_eq_false_iff, beq_eq_false_iff_ne, ne_eq, beq_iff_eq, decide_eq_true_eq, decide_eq_false_iff_not, bne_iff_ne] at zz; omega)) ⟨_, rfl, Below.refl _ _, optDef zβ rfl⟩
          refine ⟨⟨(true && !(((lget l1 k).neg != (lget l2 k).neg) || (!(T.same (lget l1 k).l (lget l2 k).l)))), .no (c := (((lget l1 k).neg != (lget l2 k).neg) || (!(T.same (lget l1 k).l (lget l2 k).l)))) (d := true) rfl (fun v w h => h), fun h w => optUndef h, fun zβ za zw zc => ?_⟩, ?_⟩
          · exact fld_44_2 rfl ((show za.eval (.tmp 49) = za.tmps.getD 49 undef from rfl).trans (optVal (zc.dep 33 49 (by kernel_rfl)) rfl zβ)) ⟨_, rfl, Below.refl _ _, optDef zβ rfl⟩
          refine ⟨⟨(true && !(((lget l1 k).neg != (lget l2 k).neg) || (!(T.same (lget l1 k).l (lget l2 k).l)))), .no (c := (((lget l1 k).neg != (lget l2 k).neg) || (!(T.same (lget l1 k).l (lget l2 k).l)))) (d := true) rfl (fun v w h => h), fun h w => optUndef h, fun zβ za zw zc => ?_⟩, ?_⟩
          · exact ld_32 rfl ((show za.eval (.tmp 50) = za.tmps.getD 50 undef from rfl).trans (optVal (zc.dep 34 50 (by kernel_rfl)) rfl zβ)) (bkeeps (bstep hb3 zc.below) _ _ (hc20 k (by first | omega | (have zz := zβ; simp only [Bool.and_eq_true, Bool.or_eq_true, Bool.true_and, Bool.not_eq_true', Bool.or_eq_false_iff, Bool.and_eq_false_iff, beq_eq_false_iff_ne, ne_eq, beq_iff_eq, decide_eq_true_eq, decide_eq_false_iff_not, bne_iff_ne] at zz; omega))).2.2.2.1) (bkeeps (bstep hb3 zc.below) _ _ (hc20 k (by first | omega | (have zz := zβ; simp only [Bool.and_eq_true, Bool.or_eq_true, Bool.true_and, Bool.not_eq_true', Bool.or_eq_false_iff, Bool.and_eq_false_iff, beq_eq_false_iff_ne, ne_eq, beq_iff_eq, decide_eq_true_eq, decide_eq_false_iff_not, bne_iff_ne] at zz; omega))).2.2.2.2.1) ⟨_, rfl, Below.refl _ _, optDef zβ rfl⟩
          refine ⟨⟨(true && !(((lget l1 k).neg != (lget l2 k).neg) || (!(T.same (lget l1 k).l (lget l2 k).l)))), .no (c := (((lget l1 k).neg != (lget l2 k).neg) || (!(T.same (lget l1 k).l (lget l2 k).l)))) (d := true) rfl (fun v w h => h), fun h w => optUndef h, fun zβ za zw zc => ?_⟩, ?_⟩
          · exact wp_call (by kernel_rfl) rfl (hv2 ((show za.eval (.tmp 46) = za.tmps.getD 46 undef from rfl).trans (optVal (zc.dep 30 46 (by kernel_rfl)) rfl zβ)) ((show za.eval (.tmp 51) = za.tmps.getD 51 undef from rfl).trans (optVal (zc.dep 35 51 (by kernel_rfl)) rfl zβ))) (ret_of (rsame_any _ _ _ _ _ (IsT.below (bstep hb3 zc.below) (InT.isT (hc12 k (by first | omega | (have zz := zβ; simp only [Bool.and_eq_true, Bool.or_eq_true, Bool.true_and, Bool.not_eq_true', Bool.or_eq_false_iff, Bool.and_eq_false_iff, beq_eq_false_iff_ne, ne_eq, beq_iff_eq, decide_eq_true_eq, decide_eq_false_iff_not, bne_iff_ne] at zz; omega))).2.2.2.2.2.2)) (IsT.below (bstep hb3 zc.below) (InT.isT (hc20 k (by first | omega | (have zz := zβ; simp only [Bool.and_eq_true, Bool.or_eq_true, Bool.true_and, Bool.not_eq_true', Bool.or_eq_false_iff, Bool.and_eq_false_iff, beq_eq_false_iff_ne, ne_eq, beq_iff_eq, decide_eq_true_eq, decide_eq_false_iff_not, bne_iff_ne] at zz; omega))).2.2.2.2.2.2)))) (fun v w' h => ⟨v, rfl, h.2, optDef zβ h.1⟩)
          refine ⟨⟨(true && !(((lget l1 k).neg != (lget l2 k).neg) || (!(T.same (lget l1 k).l (lget l2 k).l)))), .no (c := (((lget l1 k).neg != (lget l2 k).neg) || (!(T.same (lget l1 k).l (lget l2 k).l)))) (d := true) rfl (fun v w h => h), fun h w => optUndef h, fun zβ za zw zc => ?_⟩, ?_⟩
          · exact wp_not rfl ((show za.eval (.tmp 52) = za.tmps.getD 52 undef from rfl).trans (optVal (zc.dep 36 52 (by kernel_rfl)) rfl zβ)) ⟨_, rfl, Below.refl _ _, optDef zβ rfl⟩
          refine ⟨⟨true, .none rfl, fun h w => optUndef h, fun zβ za zw zc => ?_⟩, ?_⟩
          · exact wp_or rfl ((show za.eval (.tmp 41) = za.tmps.getD 41 undef from rfl).trans (optVal (zc.dep 25 41 (by kernel_rfl)) rfl rfl)) (fun hp => ((show za.eval (.tmp 53) = za.tmps.getD 53 undef from rfl).trans (optVal (zc.dep 37 53 (by kernel_rfl)) rfl (bMkN zβ hp)))) ⟨_, rfl, Below.refl _ _, optDef zβ rfl⟩
          exact trivial
        · intro za w21 zh hb22 zu
          have zh := zh.cons (d := 54) (v := .bool (((((lget l1 k).neg != (lget l2 k).neg) || (!(T.same (lget l1 k).l (lget l2 k).l))) || (!(T.same (lget l1 k).r (lget l2 k).r))))) (optVal (zu 38 54 (by kernel_rfl)) rfl rfl)
          clear zu
          refine (show WE _ [(0, .slice pa l1.length ca), (1, .slice pb l2.length cb), (5, .int .i64 (((k : Nat) : Int))), (10, .bool (((((l1.length : Nat) : Int) : Int) != (((l2.length : Nat) : Int) : Int)))), (12, .int .i64 (((l1.length : Nat) : Int))), (13, .int .i64 (((k : Nat) : Int))), (14, .bool ((decide ((((k : Nat) : Int) : Int) < (((l1.length : Nat) : Int) : Int))))), (54, .bool (((((lget l1 k).neg != (lget l2 k).neg) || (!(T.same (lget l1 k).l (lget l2 k).l))) || (!(T.same (lget l1 k).r (lget l2 k).r)))))] w21 _ .normal from ?_) za (zh.sub ⟨rfl, rfl, rfl, rfl, rfl, rfl, rfl, rfl, trivial⟩)
          refine WE.next ?_
          refine WC.cond rfl (fun h23 => ?_) (fun h23 => ?_)
          · have h23 : (((lget l1 k).neg ≠ (lget l2 k).neg) ∨ (¬ ((T.same (lget l1 k).l (lget l2 k).l) = true))) ∨ (¬ ((T.same (lget l1 k).r (lget l2 k).r) = true)) := by simpa using h23
            refine WC.seq ?_
            refine WC.region ?_
            refine WL.val (.bool false) rfl rfl rfl (fun za zC zh zk => wp_assign rfl (zh.ev rfl) zk) ?_
            refine WL.nil (WE.sub (K' := [(0, .slice pa l1.length ca), (1, .slice pb l2.length cb), (4, .bool false), (5, .int .i64 (((k : Nat) : Int))), (10, .bool (((((l1.length : Nat) : Int) : Int) != (((l2.length : Nat) : Int) : Int)))), (12, .int .i64 (((l1.length : Nat) : Int))), (13, .int .i64 (((k : Nat) : Int))), (14, .bool ((decide ((((k : Nat) : Int) : Int) < (((l1.length : Nat) : Int) : Int))))), (54, .bool (((((lget l1 k).neg != (lget l2 k).neg) || (!(T.same (lget l1 k).l (lget l2 k).l))) || (!(T.same (lget l1 k).r (lget l2 k).r)))))]) ⟨rfl, rfl, rfl, rfl, rfl, rfl, rfl, rfl, rfl, trivial⟩ ?_)
            refine WE.next ?_
            refine WC.ret ?_
            refine WE.blockRet ?_
            refine WE.thenRet ?_
            refine WE.thenRet ?_
            refine WE.blockRet ?_
            refine WE.thenRet ?_
            refine WE.ret1 rfl rfl ?_
            have hb24 : Below w.heap.size w w21 := (bstep hb3 hb22)
            exact ⟨_, rfl, congrArg Value.bool (Eq.symm (clSame_at (k := k) (fun e => li_no e (by simpa using h23)))), hb24⟩
          · have h23 : ¬ ((((lget l1 k).neg ≠ (lget l2 k).neg) ∨ (¬ ((T.same (lget l1 k).l (lget l2 k).l) = true))) ∨ (¬ ((T.same (lget l1 k).r (lget l2 k).r) = true))) := by simpa using h23
            refine WC.skip ?_
            refine WE.blockNormal ?_
            refine WE.next ?_
            refine WC.region ?_
            refine WL.val (.int .i64 ((((k + 1) : Nat) : Int))) rfl rfl rfl (fun za zC zh zk => addb_3 rfl (zh.ev rfl) (zh.ev rfl) (wrap_eq (by omega) (by omega) (by omega)) zk) ?_
            refine WL.val (.int .i64 ((((k + 1) : Nat) : Int))) rfl rfl rfl (fun za zC zh zk => wp_move rfl (zh.ev rfl) zk) ?_
            refine WL.nil (WE.sub (K' := [(0, .slice pa l1.length ca), (1, .slice pb l2.length cb), (5, .int .i64 (((k : Nat) : Int))), (10, .bool (((((l1.length : Nat) : Int) : Int) != (((l2.length : Nat) : Int) : Int)))), (12, .int .i64 (((l1.length : Nat) : Int))), (13, .int .i64 ((((k + 1) : Nat) : Int))), (14, .bool ((decide ((((k : Nat) : Int) : Int) < (((l1.length : Nat) : Int) : Int))))), (54, .bool (((((lget l1 k).neg != (lget l2 k).neg) || (!(T.same (lget l1 k).l (lget l2 k).l))) || (!(T.same (lget l1 k).r (lget l2 k).r)))))]) ⟨rfl, rfl, rfl, rfl, rfl, rfl, rfl, rfl, trivial⟩ ?_)
            refine WE.round (k + 1) ⟨rfl, rfl, rfl, rfl, rfl, trivial⟩ ?_ ?_
            · have hb25 : Below w.heap.size w w21 := (bstep hb3 hb22)
              exact ⟨by omega, hE.step (li_yes (by simpa [and_assoc] using h23)), hb25⟩
            · omega
      · have h4 : ¬ ((((k : Nat) : Int) : Int) < (((l1.length : Nat) : Int) : Int)) := by simpa using h4
        refine WC.exit ?_
        refine WE.thenExit ?_
        refine WE.thenExit ?_
        refine WE.blockIs rfl ?_
        refine WE.next ?_
        refine WC.seq ?_
        refine WC.region ?_
        refine WL.val (.bool true) rfl rfl rfl (fun za zC zh zk => wp_assign rfl (zh.ev rfl) zk) ?_
        refine WL.nil (WE.sub (K' := [(0, .slice pa l1.length ca), (1, .slice pb l2.length cb), (4, .bool true), (10, .bool (((((l1.length : Nat) : Int) : Int) != (((l2.length : Nat) : Int) : Int)))), (12, .int .i64 (((l1.length : Nat) : Int))), (13, .int .i64 (((k : Nat) : Int))), (14, .bool ((decide ((((k : Nat) : Int) : Int) < (((l1.length : Nat) : Int) : Int)))))]) ⟨rfl, rfl, rfl, rfl, rfl, rfl, rfl, trivial⟩ ?_)
        refine WE.next ?_
        refine WC.ret ?_
        refine WE.ret1 rfl rfl ?_
        exact ⟨_, rfl, congrArg Value.bool (Eq.symm (clSame_all hlen hE (by omega))), hb3⟩

end Go.Proofs.Ytgechlgdnnpoeaa

/- Names make no difference to a clause's normal form: plain. -/
namespace Go.Proofs.Ytgechlgdnnpoeaa
open Go.RowKit Go
set_option linter.unusedVariables false
set_option linter.unusedSimpArgs false

/-- Clauses alike but for their variables. -/
def clRel (R : Int → Int → Prop) : List Li → List Li → Prop
  | [], ms => ms = []
  | x :: r, ms => ∃ y s, ms = y :: s ∧ x.neg = y.neg ∧ x.l.rel R y.l ∧ x.r.rel R y.r ∧ clRel R r s
theorem clRel_rn {R : Int → Int → Prop} (hR : BiFun R) : ∀ (l m : List Li) (A B : List Int), clRel R l m → InvR R A B → (clRn l A).1 = (clRn m B).1 ∧ InvR R (clRn l A).2 (clRn m B).2
  | [], m, A, B, h, hi => by
    have : m = [] := h
    subst this
    rw [clRn, clRn]; exact ⟨rfl, hi⟩
  | x :: r, m, A, B, h, hi => by
    obtain ⟨y, s, rfl, h0, h1, h2, h3⟩ := h
    obtain ⟨k1, k2⟩ := T.rel_rn hR _ _ A B h1 hi
    obtain ⟨k3, k4⟩ := T.rel_rn hR _ _ _ _ h2 k2
    obtain ⟨k5, k6⟩ := clRel_rn hR r s _ _ h3 k4
    rw [clRn, clRn]
    refine ⟨?_, k6⟩
    show (x.rn A).1 :: _ = (y.rn B).1 :: _
    have e : (x.rn A).1 = (y.rn B).1 := by
      unfold Li.rn
      simp only
      rw [h0, k1, k3]
    rw [e]
    congr 1
theorem clRn_pre : ∀ (l : List Li) (ns : List Int), ns <+: (clRn l ns).2
  | [], ns => List.prefix_refl _
  | x :: r, ns => ((T.rn_pre x.l ns).trans (T.rn_pre x.r _)).trans (clRn_pre r _)
theorem clRn_nd : ∀ (l : List Li) (ns : List Int), ns.Nodup → (clRn l ns).2.Nodup
  | [], ns, h => h
  | x :: r, ns, h => clRn_nd r _ (T.rn_nd x.r _ (T.rn_nd x.l ns h))
def AtN (N : List Int) (v u : Int) : Prop := 0 ≤ u ∧ N[u.toNat]? = some v
theorem clRn_at {N : List Int} : ∀ (l : List Li) (ns : List Int), (∀ x ∈ l, x.l.plain = true ∧ x.r.plain = true) → (clRn l ns).2 <+: N → clRel (AtN N) l (clRn l ns).1
  | [], ns, _, _ => rfl
  | x :: r, ns, hp, h => by
    have h1 : (clRn r (x.rn ns).2).2 <+: N := h
    have h2 : (x.r.rn (x.l.rn ns).2).2 <+: N := (clRn_pre r _).trans h1
    exact ⟨_, _, rfl, rfl, T.rn_at x.l ns (hp x (by simp)).1 ((T.rn_pre x.r _).trans h2), T.rn_at x.r _ (hp x (by simp)).2 h2, clRn_at r _ (fun y hy => hp y (List.mem_cons_of_mem _ hy)) h1⟩
/-- A normal form is its own; nothing is put in for it. -/
theorem cl_twice {l : List Li} (hp : ∀ x ∈ l, x.l.plain = true ∧ x.r.plain = true) : (clRn (clRn l []).1 []).1 = (clRn l []).1 ∧ nmB (clRn (clRn l []).1 []).2 0 = [] := by
  have hn := clRn_nd l [] List.nodup_nil
  obtain ⟨h1, h2⟩ := clRel_rn (at_bi hn) l _ [] [] (clRn_at l [] hp (List.prefix_refl _)) inv_nil
  exact ⟨h1.symm, inv_id hn h2⟩
theorem clRn_parts {q : Nat} : ∀ (l : List Li) (ns : List Int), (∀ x ∈ l, x.l.size ≤ q ∧ x.r.size ≤ q) → ∀ y ∈ (clRn l ns).1, y.l.size ≤ q ∧ y.r.size ≤ q
  | [], ns, _, y, hy => nomatch hy
  | x :: r, ns, h, y, hy => by
    rcases List.mem_cons.1 (show y ∈ (x.rn ns).1 :: (clRn r (x.rn ns).2).1 from hy) with rfl | hy
    · have := h x (by simp)
      unfold Li.rn
      simp only
      rw [T.rn_size, T.rn_size]; exact this
    · exact clRn_parts r _ (fun z hz => h z (List.mem_cons_of_mem _ hz)) y hy
theorem clSz_bd {q : Nat} : ∀ (l : List Li), (∀ x ∈ l, x.l.size ≤ q ∧ x.r.size ≤ q) → clSz l ≤ l.length * (2 * q)
  | [], _ => by simp [clSz]
  | x :: r, h => by
    have h1 := h x (by simp)
    have h2 := clSz_bd r (fun z hz => h z (List.mem_cons_of_mem _ hz))
    rw [clSz, List.length_cons, Nat.add_mul]
    omega
-- what was named, put in
mutual
theorem T.rel_put {R : Int → Int → Prop} {z : List Bd} (hz : ∀ v u, R v u → (T.mk (-1 - v) []).app z = .mk (-1 - u) []) : ∀ (a b : T), a.rel R b → a.app z = b
  | .mk f l, .mk g m, h => by
    rw [T.rel] at h
    split at h
    · rename_i hf
      obtain ⟨rfl, hg, hm, hr⟩ := h
      have hm' : m = [] := hm
      subst hm'
      have := hz _ _ hr
      rw [show -1 - (-1 - f) = f by omega] at this
      rw [this]
      show T.mk (-1 - (-1 - g)) [] = T.mk g []
      rw [show -1 - (-1 - g) = g by omega]
    · rename_i hf
      obtain ⟨he, hl⟩ := h
      have he' : f = g := he
      rw [app_none (fun q => absurd q hf), T.relL_put hz l m hl, he']
theorem T.relL_put {R : Int → Int → Prop} {z : List Bd} (hz : ∀ v u, R v u → (T.mk (-1 - v) []).app z = .mk (-1 - u) []) : ∀ (l m : List T), T.relL R l m → l.map (T.app z) = m
  | [], m, h => by have : m = [] := h; subst this; rfl
  | p :: ps, m, h => by
    obtain ⟨t, r, rfl, h1, h2⟩ := h
    rw [List.map_cons, T.rel_put hz p t h1, T.relL_put hz ps r h2]
end
theorem clRel_put {R : Int → Int → Prop} {z : List Bd} (hz : ∀ v u, R v u → (T.mk (-1 - v) []).app z = .mk (-1 - u) []) : ∀ (l m : List Li), clRel R l m → l.map (Li.app z) = m
  | [], m, h => by have : m = [] := h; subst this; rfl
  | x :: r, m, h => by
    obtain ⟨y, s, rfl, h0, h1, h2, h3⟩ := h
    rw [List.map_cons, clRel_put hz r s h3]
    congr 1
    unfold Li.app
    rw [T.rel_put hz _ _ h1, T.rel_put hz _ _ h2, h0]
theorem nmB_mem : ∀ (N : List Int) (k : Nat) (b : Bd), b ∈ nmB N k ↔ ∃ i : Nat, N[i]? = some b.var ∧ ((k + i : Nat) : Int) ≠ b.var ∧ b.t = .mk (-1 - ((k + i : Nat) : Int)) []
  | [], k, b => by simp [nmB]
  | u :: r, k, b => by
    rw [nmB, List.mem_append, nmB_mem r (k + 1) b]
    constructor
    · rintro (h | ⟨i, h1, h2, h3⟩)
      · split at h
        · cases h
        · rename_i hk
          rw [List.mem_singleton] at h
          subst h
          exact ⟨0, by simp, by simpa using hk, by simp⟩
      · exact ⟨i + 1, by rw [List.getElem?_cons_succ]; exact h1, by rw [show k + (i + 1) = k + 1 + i by omega]; exact h2, by rw [show k + (i + 1) = k + 1 + i by omega]; exact h3⟩
    · rintro ⟨i, h1, h2, h3⟩
      cases i with
      | zero =>
        left
        simp at h1 h2 h3
        rw [if_neg (by rw [h1]; exact h2), List.mem_singleton]
        obtain ⟨bv, bt⟩ := b
        simp only at h1 h3
        rw [h1, h3]
      | succ i =>
        right
        rw [List.getElem?_cons_succ] at h1
        rw [show k + (i + 1) = k + 1 + i by omega] at h2 h3
        exact ⟨i, h1, h2, h3⟩
theorem put_name {N : List Int} {z : List Bd} (hn : N.Nodup) (hp : z.Perm (nmB N 0)) {v u : Int} (h0 : 0 ≤ v) (h : AtN N v u) : (T.mk (-1 - v) []).app z = .mk (-1 - u) [] := by
  obtain ⟨hu, hN⟩ := h
  have hf : -1 - v < 0 := by omega
  have hvv : -1 - (-1 - v) = v := by omega
  have hm : ∀ b, b ∈ z → b.var = v → b.t = .mk (-1 - u) [] ∧ u ≠ v := by
    intro b hb hbv
    obtain ⟨i, h1, h2, h3⟩ := (nmB_mem N 0 b).1 (hp.mem_iff.1 hb)
    rw [hbv] at h1 h2
    obtain ⟨q1, e1⟩ := List.getElem?_eq_some_iff.1 h1
    obtain ⟨q2, e2⟩ := List.getElem?_eq_some_iff.1 hN
    have := nd_inj hn q1 q2 (e1.trans e2.symm)
    have e3 : ((0 + i : Nat) : Int) = u := by omega
    rw [e3] at h2 h3
    exact ⟨h3, h2⟩
  cases hs : subFind z v with
  | some t =>
    rw [app_some hf (by rw [hvv]; exact hs)]
    unfold subFind at hs
    rw [Option.map_eq_some_iff] at hs
    obtain ⟨b, hb, rfl⟩ := hs
    have hb1 := List.mem_of_find?_eq_some hb
    have hb2 := List.find?_some hb
    simp only [decide_eq_true_eq] at hb2
    exact (hm b hb1 hb2).1
  | none =>
    rw [app_none (fun _ => by rw [hvv]; exact hs)]
    have : u = v := by
      refine Classical.byContradiction fun hne => ?_
      have hb : (⟨v, .mk (-1 - u) []⟩ : Bd) ∈ nmB N 0 := (nmB_mem N 0 _).2 ⟨u.toNat, hN, by simp; omega, by simp; omega⟩
      have hz := hp.mem_iff.2 hb
      unfold subFind at hs
      rw [Option.map_eq_none_iff, List.find?_eq_none] at hs
      exact hs _ hz (by simp)
    rw [this]; rfl
/-- All that was named is a variable. -/
def NNeg (N : List Int) : Prop := ∀ v ∈ N, 0 ≤ v
theorem nmTo_nn {N : List Int} {v : Int} (h : NNeg N) (hv : 0 ≤ v) : NNeg (nmTo N v).2 := by
  unfold nmTo
  split
  · exact h
  · intro x hx
    rcases List.mem_append.1 hx with hx | hx
    · exact h x hx
    · rw [List.mem_singleton] at hx; omega
mutual
theorem T.rn_nn : ∀ (t : T) (ns : List Int), NNeg ns → NNeg (t.rn ns).2
  | .mk f l, ns, h => by
    rw [T.rn]
    split
    · exact T.rnL_nn l _ (nmTo_nn h (by omega))
    · exact T.rnL_nn l ns h
theorem T.rnL_nn : ∀ (l : List T) (ns : List Int), NNeg ns → NNeg (T.rnL l ns).2
  | [], ns, h => by rw [T.rnL]; exact h
  | t :: r, ns, h => by rw [T.rnL]; exact T.rnL_nn r _ (T.rn_nn t ns h)
end
theorem clRn_nn : ∀ (l : List Li) (ns : List Int), NNeg ns → NNeg (clRn l ns).2
  | [], ns, h => h
  | x :: r, ns, h => clRn_nn r _ (T.rn_nn x.r _ (T.rn_nn x.l ns h))
/-- What Normal tells makes the normal form. -/
theorem cl_puts {l : List Li} {z : List Bd} (hp : ∀ x ∈ l, x.l.plain = true ∧ x.r.plain = true) (hz : z.Perm (nmB (clRn l []).2 0)) : l.map (Li.app z) = (clRn l []).1 := by
  have hn := clRn_nd l [] List.nodup_nil
  have h0 : NNeg (clRn l []).2 := clRn_nn l [] (fun v hv => nomatch hv)
  exact clRel_put (R := AtN (clRn l []).2) (fun v u h => put_name hn hz (h0 v (List.mem_of_getElem? h.2)) h) l _ (clRn_at l [] hp (List.prefix_refl _))
end Go.Proofs.Ytgechlgdnnpoeaa

/- Operations, one law a kind and type. -/
namespace Go.Proofs.Ytgechlgdnnpoeaa
open Go.RowKit Go
set_option linter.unusedVariables false
set_option linter.unusedSimpArgs false
set_option maxRecDepth 100000



end Go.Proofs.Ytgechlgdnnpoeaa

/- A variable is named: the closure that writes what was named. -/
namespace Go.Proofs.Ytgechlgdnnpoeaa
open Go.RowKit Go
set_option linter.unusedVariables false
set_option linter.unusedSimpArgs false

set_option linter.unnecessarySimpa false

theorem zeroInt (w : World) : (zeroValue 3).run Try.prog w = .ok (.int .i64 0) w := by kernel_rfl
theorem inT_lf {S : Nat → Prop} {w : World} {f : Int} (hf : I64 f) : InT S w (.mk f []) (.agg #[.int .i64 f, .slice none 0 0]) := ⟨hf, none, 0, rfl, Nat.le_refl _, Nat.zero_le _, trivial⟩
theorem nmTo_some {ns : List Int} {v : Int} {i : Nat} (h : nmIx ns v 0 = some i) : nmTo ns v = (i, ns) := by unfold nmTo; rw [h]
theorem nmTo_none {ns : List Int} {v : Int} (h : nmIx ns v 0 = none) : nmTo ns v = (ns.length, ns ++ [v]) := by unfold nmTo; rw [h]
set_option maxRecDepth 100000 in
theorem nto_any {gn gs : Nat} {ns : List Int} {C : Nat → Prop} (v : Int) (w : World) (h : NmAt w gn gs ns C) (hv : I64 v) (hl : ns.length ≤ 1099511627776) : Calls Try.prog 54 #[.int .i64 v, .pointer (some ⟨gn, 0, none⟩), .pointer (some ⟨gs, 0, none⟩)] w (Ret fun v' w' => (∃ C', v' = .int .i64 ((nmTo ns v).1 : Nat) ∧ NmAt w' gn gs (nmTo ns v).2 C' ∧ ∀ b, C' b → C b ∨ w.heap.size ≤ b) ∧ Chg C w w') := by
  have h0 := h
  obtain ⟨mb, es, cl, a, c, hN⟩ := h
  have hmn := hN.mn
  have hms := hN.ms
  have hgn := hN.bn.lt
  have hgs := hN.bs.lt
  have hgm := hN.mp.lt
  have hgg := hN.ne
  have hr1 := hN.rown
  have hr2 := hN.rows
  have hr3 := hN.rowm
  have hbl := nmB_len ns 0
  have hri := hN.row.inRow
  have hv2 := hv
  unfold I64 at hv2
  refine Calls.walk (l := [.int .i64 v, .pointer (some ⟨gn, 0, none⟩), .pointer (some ⟨gs, 0, none⟩)]) Try.func54 rfl (by kernel_rfl) ?_
  refine WC.sub (K' := [(0, .int .i64 v), (1, .pointer (some ⟨gn, 0, none⟩)), (2, .pointer (some ⟨gs, 0, none⟩))]) ⟨rfl, rfl, rfl, trivial⟩ ?_
  refine WC.seq ?_
  refine WC.region ?_
  refine WL.val (.int .i64 0) rfl rfl rfl (fun za zC zh zk => wp_assign rfl (zh.ev rfl) zk) ?_
  refine WL.nil (WE.sub (K' := [(0, .int .i64 v), (1, .pointer (some ⟨gn, 0, none⟩)), (2, .pointer (some ⟨gs, 0, none⟩)), (4, .int .i64 0)]) ⟨rfl, rfl, rfl, rfl, trivial⟩ ?_)
  refine WE.next ?_
  refine WC.seq ?_
  refine WC.region ?_
  refine WL.val (.map ((some mb))) rfl rfl rfl (fun za zC zh zk => ld_75 rfl (zh.ev rfl) ((hN.bn.cell 0).trans rfl) zk) ?_
  refine WL.val (.int .i64 v) rfl rfl rfl (fun za zC zh zk => wp_move rfl (zh.ev rfl) zk) ?_
  rcases hix : nmIx ns v 0 with _ | i
  · refine WL.val (.tuple #[.int .i64 0, .bool false]) rfl rfl rfl (fun za zC zh zk => wp_lookok_im Try.underlying75 Try.underlying3 (zeroInt _) hN.mp hN.ent rfl (zh.ev rfl) (zh.ev rfl) (by rw [nm_look, hix]; exact zk)) ?_
    refine WL.val (.tuple #[.int .i64 0, .bool false]) rfl rfl rfl (fun za zC zh zk => wp_move rfl (zh.ev rfl) zk) ?_
    refine WL.val (.int .i64 0) rfl rfl rfl (fun za zC zh zk => ext2_0 rfl (zh.ev rfl) zk) ?_
    refine WL.val (.bool false) rfl rfl rfl (fun za zC zh zk => ext2_1 rfl (zh.ev rfl) zk) ?_
    refine WL.val (.int .i64 0) rfl rfl rfl (fun za zC zh zk => wp_assign rfl (zh.ev rfl) zk) ?_
    refine WL.val (.bool false) rfl rfl rfl (fun za zC zh zk => wp_assign rfl (zh.ev rfl) zk) ?_
    refine WL.nil (WE.sub (K' := [(0, .int .i64 v), (1, .pointer (some ⟨gn, 0, none⟩)), (2, .pointer (some ⟨gs, 0, none⟩)), (4, .int .i64 0), (5, .int .i64 0), (6, .bool false)]) ⟨rfl, rfl, rfl, rfl, rfl, rfl, trivial⟩ ?_)
    refine WE.next ?_
    refine WC.seq ?_
    refine WC.seq ?_
    refine WC.region ?_
    refine WL.val (.bool false) rfl rfl rfl (fun za zC zh zk => wp_move rfl (zh.ev rfl) zk) ?_
    refine WL.val (.bool true) rfl rfl rfl (fun za zC zh zk => wp_not rfl (zh.ev rfl) zk) ?_
    refine WL.nil (WE.sub (K' := [(0, .int .i64 v), (1, .pointer (some ⟨gn, 0, none⟩)), (2, .pointer (some ⟨gs, 0, none⟩)), (4, .int .i64 0), (5, .int .i64 0), (6, .bool false), (14, .bool true)]) ⟨rfl, rfl, rfl, rfl, rfl, rfl, rfl, trivial⟩ ?_)
    refine WE.next ?_
    refine WC.condT rfl rfl ?_
    refine WC.seq ?_
    refine WC.region ?_
    refine WL.val (.map ((some mb))) rfl rfl rfl (fun za zC zh zk => ld_75 rfl (zh.ev rfl) ((hN.bn.cell 0).trans rfl) zk) ?_
    refine WL.val (.int .i64 ((ns.length : Nat) : Int)) rfl rfl rfl (fun za zC zh zk => wp_lenMap_im Try.underlying75 hN.mp hN.ent rfl (zh.ev rfl) (by rw [nmL_len]; exact zk)) ?_
    refine WL.val (.int .i64 (((ns.length : Nat) : Int))) rfl rfl rfl (fun za zC zh zk => wp_assign rfl (zh.ev rfl) zk) ?_
    refine WL.nil (WE.sub (K' := [(0, .int .i64 v), (1, .pointer (some ⟨gn, 0, none⟩)), (2, .pointer (some ⟨gs, 0, none⟩)), (4, .int .i64 0), (5, .int .i64 (((ns.length : Nat) : Int))), (6, .bool false), (14, .bool true)]) ⟨rfl, rfl, rfl, rfl, rfl, rfl, rfl, trivial⟩ ?_)
    refine WE.next ?_
    refine WC.seq ?_
    refine WC.region ?_
    refine WL.val (.map ((some mb))) rfl rfl rfl (fun za zC zh zk => ld_75 rfl (zh.ev rfl) ((hN.bn.cell 0).trans rfl) zk) ?_
    refine WL.val (.int .i64 v) rfl rfl rfl (fun za zC zh zk => wp_move rfl (zh.ev rfl) zk) ?_
    refine WL.val (.int .i64 (((ns.length : Nat) : Int))) rfl rfl rfl (fun za zC zh zk => wp_move rfl (zh.ev rfl) zk) ?_
    refine WL.step (post := fun _ w' => ∃ es' cl', ObjAt w' mb (.map es' cl') ∧ ImE es' cl' (nmL ns 0 ++ [(v, .int .i64 ((ns.length : Nat) : Int))]) ∧ Upd mb w w') rfl rfl rfl (fun za zC zh zk => wp_put_im Try.underlying75 Try.underlying3 hN.mp hN.ent rfl (zh.ev rfl) (zh.ev rfl) (zh.ev rfl) (nm_none hix) (fun w' es' cl' h1 h2 h3 => zk _ _ ⟨es', cl', h1, h2, h3⟩)) ?_
    rintro _ w1 ⟨es2, cl3, hM4, hE5, hu6⟩
    have hB7 := upd_blk hN.bn hu6 (by omega)
    have hB8 := upd_blk hN.bs hu6 (by omega)
    refine WL.nil (WE.sub (K' := [(0, .int .i64 v), (1, .pointer (some ⟨gn, 0, none⟩)), (2, .pointer (some ⟨gs, 0, none⟩)), (4, .int .i64 0), (5, .int .i64 (((ns.length : Nat) : Int))), (6, .bool false), (14, .bool true)]) ⟨rfl, rfl, rfl, rfl, rfl, rfl, rfl, trivial⟩ ?_)
    refine WE.next ?_
    refine WC.seq ?_
    refine WC.region ?_
    refine WL.val (.int .i64 (((ns.length : Nat) : Int))) rfl rfl rfl (fun za zC zh zk => wp_move rfl (zh.ev rfl) zk) ?_
    refine WL.val (.int .i64 v) rfl rfl rfl (fun za zC zh zk => wp_move rfl (zh.ev rfl) zk) ?_
    refine WL.val (.bool (((((ns.length : Nat) : Int) : Int) != (v : Int)))) rfl rfl rfl (fun za zC zh zk => neq_3 rfl (zh.ev rfl) (zh.ev rfl) zk) ?_
    refine WL.nil (WE.sub (K' := [(0, .int .i64 v), (1, .pointer (some ⟨gn, 0, none⟩)), (2, .pointer (some ⟨gs, 0, none⟩)), (4, .int .i64 0), (5, .int .i64 (((ns.length : Nat) : Int))), (6, .bool false), (14, .bool true), (22, .bool (((((ns.length : Nat) : Int) : Int) != (v : Int))))]) ⟨rfl, rfl, rfl, rfl, rfl, rfl, rfl, rfl, trivial⟩ ?_)
    refine WE.next ?_
    refine WC.cond rfl (fun h9 => ?_) (fun h9 => ?_)
    · have h9 : (((ns.length : Nat) : Int) : Int) ≠ (v : Int) := by simpa using h9
      refine WC.region ?_
      refine WL.val (.slice a ((nmB ns 0).length) c) rfl rfl rfl (fun za zC zh zk => ld_23 rfl (zh.ev rfl) ((hB8.cell 0).trans rfl) zk) ?_
      refine WL.val (.int .i64 v) rfl rfl rfl (fun za zC zh zk => wp_move rfl (zh.ev rfl) zk) ?_
      refine WL.val (.int .i64 (((ns.length : Nat) : Int))) rfl rfl rfl (fun za zC zh zk => wp_move rfl (zh.ev rfl) zk) ?_
      refine WL.val (.int .i64 ((-1 - ((ns.length : Nat) : Int)))) rfl rfl rfl (fun za zC zh zk => subb_3 rfl (zh.ev rfl) (zh.ev rfl) (wrap_eq rfl (by omega) (by omega)) zk) ?_
      refine WL.val (.agg #[.int .i64 ((-1 - ((ns.length : Nat) : Int))), .slice none 0 0]) rfl rfl rfl (fun za zC zh zk => build_32_0 rfl (zh.ev rfl) zk) ?_
      refine WL.val (.agg #[.int .i64 v, .int .i64 ((-1 - ((ns.length : Nat) : Int))), .slice none 0 0]) rfl rfl rfl (fun za zC zh zk => build_56_0_1 rfl (zh.ev rfl) (zh.ev rfl) zk) ?_
      refine WL.step (post := NewRow w1 56 #[.int .i64 v, .int .i64 ((-1 - ((ns.length : Nat) : Int))), .slice none 0 0] 1) rfl rfl rfl (fun za zC zh zk => row_23_1 rfl (zh.ev rfl) (zk _ _ (newRow _ _ _ _))) ?_
      rintro _ w10 ⟨g11, rfl, hg12, hB13, hb14, hz15⟩
      have hl16 : gn < g11 := by have z1 := hB7.lt; omega
      have hl17 : gs < g11 := by have z1 := hB8.lt; omega
      have hl18 : mb < g11 := by have z1 := hM4.lt; omega
      have hs19 : Chg ((fun b => b = mb)) w w10 := (Chg.trans2 (Chg.trans2 (Chg.refl ((fun b => b = mb)) _) (Chg.ofUpd (S := fun k => k = mb) hu6 rfl) (fun i h1 h2 => by first | exact h2 | exact .inl ⟨h2, h1⟩ | exact .inl h2 | exact .inr h2 | exact .inr (.inl h2) | exact .inr (.inr h2) | ((try dsimp only at *); omega))) (Chg.ofBelow (S := fun k => k < 0) hb14) (fun i h1 h2 => by first | exact h2 | exact .inl ⟨h2, h1⟩ | exact .inl h2 | exact .inr h2 | exact .inr (.inl h2) | exact .inr (.inr h2) | ((try dsimp only at *); omega)))
      have hrw := hN.row.chg hs19 (fun b q e => hr3 (by subst e; exact q)) (fun _ q => q.elim)
      have hB20 := hB7.below hb14
      have hB21 := hB8.below hb14
      refine WL.step (post := fun v' w' => ∃ ra rc, v' = .slice ra ((nmB ns 0).length + 1) rc ∧ RowD eltB (fun _ => False) w' 56 ra rc ((nmB ns 0).length + 1) (nmB ns 0 ++ [(⟨v, .mk (-1 - ((ns.length : Nat) : Int)) []⟩ : Bd)]) ∧ Chg (fun b => (Value.slice a (nmB ns 0).length c).ownBlock = some b) w10 w' ∧ ∀ b, (Value.slice ra ((nmB ns 0).length + 1) rc).ownBlock = some b → (Value.slice a (nmB ns 0).length c).ownBlock = some b ∨ w10.heap.size ≤ b) rfl rfl rfl (fun za zC zh zk => wp_appD (E := eltB) (S2 := fun _ => False) (size := 3) (bytes := 40) (z := .agg #[.int .i64 0, .int .i64 0, .slice none 0 0]) (y := (⟨v, .mk (-1 - ((ns.length : Nat) : Int)) []⟩ : Bd)) (cs := [.int .i64 v, .int .i64 (-1 - ((ns.length : Nat) : Int)), .slice none 0 0]) rfl Try.underlying23 (by kernel_rfl) rfl (by decide) rfl (zh.ev rfl) (zh.ev rfl) hrw hB13 ⟨_, _, rfl, hv, inT_lf (by unfold I64; omega)⟩ (fun _ q => q.elim) (by omega) (by omega) (fun ra rc w' h1 h2 h3 => zk _ _ ⟨ra, rc, rfl, h1.mono (fun b q _ => q.1.elim id id) (fun _ q => q.elim), h2, h3⟩)) ?_
      rintro _ w22 ⟨ra23, rc24, rfl, hR25, hc26, ho27⟩
      have ho28 := hM4.below hb14
      have hB29 := chg_blk hB20 hc26 (by assumption)
      have hB30 := chg_blk hB21 hc26 (by assumption)
      have ho31 := ho28.chg hc26 (by assumption)
      have hRne := hR25.neBlk hB30 (by decide)
      refine WL.step (post := fun _ w' => Upd gs w22 w' ∧ Blk w' gs 23 #[.slice ra23 (((nmB ns 0).length + 1)) rc24]) rfl rfl rfl (fun za zC zh zk => st_23 rfl (zh.ev rfl) (zh.ev rfl) hB30 (by first | decide | simp) (fun v => zk v _ ⟨Upd.at_ _ _ _ _, hB30.set_ 0 _⟩)) ?_
      rintro v35 w32 ⟨hu33, hB34⟩
      have hB36 := upd_blk hB29 hu33 (by omega)
      have ho37 := ho31.upd hu33 (by omega)
      refine WL.nil (WE.sub (K' := [(0, .int .i64 v), (1, .pointer (some ⟨gn, 0, none⟩)), (2, .pointer (some ⟨gs, 0, none⟩)), (4, .int .i64 0), (5, .int .i64 (((ns.length : Nat) : Int))), (6, .bool false), (14, .bool true), (22, .bool (((((ns.length : Nat) : Int) : Int) != (v : Int))))]) ⟨rfl, rfl, rfl, rfl, rfl, rfl, rfl, rfl, trivial⟩ ?_)
      refine WE.next ?_
      refine WC.seq ?_
      refine WC.region ?_
      refine WL.val (.int .i64 (((ns.length : Nat) : Int))) rfl rfl rfl (fun za zC zh zk => wp_move rfl (zh.ev rfl) zk) ?_
      refine WL.val (.int .i64 (((ns.length : Nat) : Int))) rfl rfl rfl (fun za zC zh zk => wp_assign rfl (zh.ev rfl) zk) ?_
      refine WL.nil (WE.sub (K' := [(0, .int .i64 v), (1, .pointer (some ⟨gn, 0, none⟩)), (2, .pointer (some ⟨gs, 0, none⟩)), (4, .int .i64 (((ns.length : Nat) : Int))), (5, .int .i64 (((ns.length : Nat) : Int))), (6, .bool false), (14, .bool true), (22, .bool (((((ns.length : Nat) : Int) : Int) != (v : Int))))]) ⟨rfl, rfl, rfl, rfl, rfl, rfl, rfl, rfl, trivial⟩ ?_)
      refine WE.next ?_
      refine WC.ret ?_
      refine WE.ret1 rfl rfl ?_
      rw [nmTo_none hix]
      have heq := nmB_snoc ns v 0
      rw [Nat.zero_add] at heq
      have hs38 : Chg ((fun b => b = mb ∨ b = gs ∨ (Value.slice a (nmB ns 0).length c).ownBlock = some b)) w w32 := (Chg.trans2 (Chg.trans2 (Chg.trans2 (Chg.trans2 (Chg.refl ((fun b => b = mb ∨ b = gs ∨ (Value.slice a (nmB ns 0).length c).ownBlock = some b)) _) (Chg.ofUpd (S := fun k => k = mb) hu6 rfl) (fun i h1 h2 => by first | exact h2 | exact .inl ⟨h2, h1⟩ | exact .inl h2 | exact .inr h2 | exact .inr (.inl h2) | exact .inr (.inr h2) | ((try dsimp only at *); omega))) (Chg.ofBelow (S := fun k => k < 0) hb14) (fun i h1 h2 => by first | exact h2 | exact .inl ⟨h2, h1⟩ | exact .inl h2 | exact .inr h2 | exact .inr (.inl h2) | exact .inr (.inr h2) | ((try dsimp only at *); omega))) hc26 (fun i h1 h2 => by first | exact h2 | exact .inl ⟨h2, h1⟩ | exact .inl h2 | exact .inr h2 | exact .inr (.inl h2) | exact .inr (.inr h2) | ((try dsimp only at *); omega))) (Chg.ofUpd (S := fun k => k = gs) hu33 rfl) (fun i h1 h2 => by first | exact h2 | exact .inl ⟨h2, h1⟩ | exact .inl h2 | exact .inr h2 | exact .inr (.inl h2) | exact .inr (.inr h2) | ((try dsimp only at *); omega)))
      have hs39 : Chg ((fun b => b = gs)) w22 w32 := (Chg.trans2 (Chg.refl ((fun b => b = gs)) _) (Chg.ofUpd (S := fun k => k = gs) hu33 rfl) (fun i h1 h2 => by first | exact h2 | exact .inl ⟨h2, h1⟩ | exact .inl h2 | exact .inr h2 | exact .inr (.inl h2) | exact .inr (.inr h2) | ((try dsimp only at *); omega)))
      rw [if_neg (by omega)] at heq
      have hln : (nmB (ns ++ [v]) 0).length = (nmB ns 0).length + 1 := by rw [heq]; simp
      have hng : (Value.slice ra23 ((nmB ns 0).length + 1) rc24).ownBlock ≠ some gs := hRne
      have hrw := hR25.chg hs39 (fun b q e => hng (by subst e; exact q)) (fun _ q => q.elim)
      have hle := hs38.size
      refine ⟨_, rfl, ⟨fun b => C b ∨ (w.heap.size ≤ b ∧ b < w32.heap.size), rfl, ⟨mb, es2, cl3, ra23, rc24, ?_⟩, fun b q => q.imp id (fun q => q.1)⟩, hs38.mono (fun b q => by rcases q with rfl | rfl | q; exact hN.cm; exact hN.cs; exact hN.crow b q)⟩
      refine ⟨hB36, ho37, by rw [nmL_snoc, Nat.zero_add]; exact hE5, by rw [hln]; exact hB34, by rw [hln, heq]; exact hrw, hN.ne, .inl hN.cn, .inl hN.cs, .inl hN.cm, ?_, fun b q => q.elim (fun q => Nat.lt_of_lt_of_le (hN.clt b q) hle) (fun q => q.2)⟩
      rw [hln]
      intro b q
      rcases ho27 b q with q2 | q2
      · exact .inl (hN.crow b q2)
      · exact .inr ⟨by have z : w.heap.size ≤ _ := (Nat.le_trans (Nat.le_of_eq hu6.size.symm) hb14.size); omega, hrw.lt b q⟩
    · have h9 : ¬ ((((ns.length : Nat) : Int) : Int) ≠ (v : Int)) := by simpa using h9
      refine WC.skip ?_
      refine WE.next ?_
      refine WC.seq ?_
      refine WC.region ?_
      refine WL.val (.int .i64 (((ns.length : Nat) : Int))) rfl rfl rfl (fun za zC zh zk => wp_move rfl (zh.ev rfl) zk) ?_
      refine WL.val (.int .i64 (((ns.length : Nat) : Int))) rfl rfl rfl (fun za zC zh zk => wp_assign rfl (zh.ev rfl) zk) ?_
      refine WL.nil (WE.sub (K' := [(0, .int .i64 v), (1, .pointer (some ⟨gn, 0, none⟩)), (2, .pointer (some ⟨gs, 0, none⟩)), (4, .int .i64 (((ns.length : Nat) : Int))), (5, .int .i64 (((ns.length : Nat) : Int))), (6, .bool false), (14, .bool true), (22, .bool (((((ns.length : Nat) : Int) : Int) != (v : Int))))]) ⟨rfl, rfl, rfl, rfl, rfl, rfl, rfl, rfl, trivial⟩ ?_)
      refine WE.next ?_
      refine WC.ret ?_
      refine WE.ret1 rfl rfl ?_
      rw [nmTo_none hix]
      have heq := nmB_snoc ns v 0
      rw [Nat.zero_add] at heq
      have hs40 : Chg ((fun b => b = mb)) w w1 := (Chg.trans2 (Chg.refl ((fun b => b = mb)) _) (Chg.ofUpd (S := fun k => k = mb) hu6 rfl) (fun i h1 h2 => by first | exact h2 | exact .inl ⟨h2, h1⟩ | exact .inl h2 | exact .inr h2 | exact .inr (.inl h2) | exact .inr (.inr h2) | ((try dsimp only at *); omega)))
      rw [if_pos (by omega), List.append_nil] at heq
      have hrw := hN.row.chg hs40 (fun b q e => hr3 (by subst e; exact q)) (fun _ q => q.elim)
      have hle := hs40.size
      exact ⟨_, rfl, ⟨C, rfl, ⟨mb, es2, cl3, a, c, ⟨hB7, hM4, by rw [nmL_snoc, Nat.zero_add]; exact hE5, by rw [heq]; exact hB8, by rw [heq]; exact hrw, hN.ne, hN.cn, hN.cs, hN.cm, by rw [heq]; exact hN.crow, fun b q => Nat.lt_of_lt_of_le (hN.clt b q) hle⟩⟩, fun b q => .inl q⟩, hs40.mono (fun b q => q ▸ hN.cm)⟩
  · refine WL.val (.tuple #[.int .i64 (((i : Nat) : Int)), .bool true]) rfl rfl rfl (fun za zC zh zk => wp_lookok_im Try.underlying75 Try.underlying3 (zeroInt _) hN.mp hN.ent rfl (zh.ev rfl) (zh.ev rfl) (by rw [nm_look, hix]; exact zk)) ?_
    refine WL.val (.tuple #[.int .i64 (((i : Nat) : Int)), .bool true]) rfl rfl rfl (fun za zC zh zk => wp_move rfl (zh.ev rfl) zk) ?_
    refine WL.val (.int .i64 (((i : Nat) : Int))) rfl rfl rfl (fun za zC zh zk => ext2_0 rfl (zh.ev rfl) zk) ?_
    refine WL.val (.bool true) rfl rfl rfl (fun za zC zh zk => ext2_1 rfl (zh.ev rfl) zk) ?_
    refine WL.val (.int .i64 (((i : Nat) : Int))) rfl rfl rfl (fun za zC zh zk => wp_assign rfl (zh.ev rfl) zk) ?_
    refine WL.val (.bool true) rfl rfl rfl (fun za zC zh zk => wp_assign rfl (zh.ev rfl) zk) ?_
    refine WL.nil (WE.sub (K' := [(0, .int .i64 v), (1, .pointer (some ⟨gn, 0, none⟩)), (2, .pointer (some ⟨gs, 0, none⟩)), (4, .int .i64 0), (5, .int .i64 (((i : Nat) : Int))), (6, .bool true)]) ⟨rfl, rfl, rfl, rfl, rfl, rfl, trivial⟩ ?_)
    refine WE.next ?_
    refine WC.seq ?_
    refine WC.seq ?_
    refine WC.region ?_
    refine WL.val (.bool true) rfl rfl rfl (fun za zC zh zk => wp_move rfl (zh.ev rfl) zk) ?_
    refine WL.val (.bool false) rfl rfl rfl (fun za zC zh zk => wp_not rfl (zh.ev rfl) zk) ?_
    refine WL.nil (WE.sub (K' := [(0, .int .i64 v), (1, .pointer (some ⟨gn, 0, none⟩)), (2, .pointer (some ⟨gs, 0, none⟩)), (4, .int .i64 0), (5, .int .i64 (((i : Nat) : Int))), (6, .bool true), (14, .bool false)]) ⟨rfl, rfl, rfl, rfl, rfl, rfl, rfl, trivial⟩ ?_)
    refine WE.next ?_
    refine WC.condF rfl rfl ?_
    refine WC.skip ?_
    refine WE.next ?_
    refine WC.seq ?_
    refine WC.region ?_
    refine WL.val (.int .i64 (((i : Nat) : Int))) rfl rfl rfl (fun za zC zh zk => wp_move rfl (zh.ev rfl) zk) ?_
    refine WL.val (.int .i64 (((i : Nat) : Int))) rfl rfl rfl (fun za zC zh zk => wp_assign rfl (zh.ev rfl) zk) ?_
    refine WL.nil (WE.sub (K' := [(0, .int .i64 v), (1, .pointer (some ⟨gn, 0, none⟩)), (2, .pointer (some ⟨gs, 0, none⟩)), (4, .int .i64 (((i : Nat) : Int))), (5, .int .i64 (((i : Nat) : Int))), (6, .bool true), (14, .bool false)]) ⟨rfl, rfl, rfl, rfl, rfl, rfl, rfl, trivial⟩ ?_)
    refine WE.next ?_
    refine WC.ret ?_
    refine WE.ret1 rfl rfl ?_
    rw [nmTo_some hix]
    exact ⟨_, rfl, ⟨C, rfl, h0.below (Below.refl _ _), fun b q => .inl q⟩, .ofBelow (Below.refl _ _)⟩

end Go.Proofs.Ytgechlgdnnpoeaa

namespace Go.Proofs.Ytgechlgdnnpoeaa
open Go.RowKit Go
set_option linter.unusedVariables false
set_option linter.unusedSimpArgs false
section
variable {P : Program} {ops : Array Oper}
structure CtxQ (ops : Array Oper) (chain : List Nat) (R : Nat → Value → World → Prop) (G : List (Option Value) → World → Prop) (n : Fr) (K Ke : Known) (i : Nat) (o : Oper) (a : Act) (w : World) (vs : List (Option Value)) : Prop extends CtxH ops chain R G n K Ke i o a w vs where
  anc : ∀ (p c : Nat), chain[p]? = some c → o.after.any (fun e => Region.binds .any e && (ancL ops e.on).contains c) = true → ∃ v, vs[p]? = some (some v)
def SoundQ (P : Program) (ops : Array Oper) (Q : Exit → Act → World → Prop) (chain : List Nat) (R : Nat → Value → World → Prop) (Le : World → World → Prop) (G : List (Option Value) → World → Prop) (n : Fr) (K Ke : Known) (i : Nat) (o : Oper) : Prop :=
  (chain.contains i = false ∧ ∃ β, GuardIs R o β ∧ (∀ g b, o.guard = some (g, b) → chain.contains g = false) ∧ (β = false → ∀ w, R i undef w) ∧
    (β = true → ∀ (a : Act) (w : World) (vs : List (Option Value)), CtxQ ops chain R G n K Ke i o a w vs →
      o.wpIn (fen n.r) 0 P a w (fun a' w' => ∃ v, a' = Act.put a o.dst v ∧ Le w w' ∧ G vs w' ∧ R i v w') Q)) ∨
  (∃ p, chain[p]? = some i ∧ ∃ β, GuardIs R o β ∧ (∀ g b, o.guard = some (g, b) → chain.contains g = false) ∧
    (β = false → ∀ (a : Act) (w : World) (vs : List (Option Value)), CtxQ ops chain R G n K Ke i o a w vs → vs[p]? = some none → G (vs.set p (some undef)) w) ∧
    (β = true → ∀ (a : Act) (w : World) (vs : List (Option Value)), CtxQ ops chain R G n K Ke i o a w vs → vs[p]? = some none →
      o.wpIn (fen n.r) 0 P a w (fun a' w' => ∃ v, a' = Act.put a o.dst v ∧ Le w w' ∧ G (vs.set p (some v)) w') Q))
def SoundFromQ (P : Program) (ops : Array Oper) (Q : Exit → Act → World → Prop) (chain : List Nat) (R : Nat → Value → World → Prop) (Le : World → World → Prop) (G : List (Option Value) → World → Prop) (n : Fr) (K Ke : Known) : Nat → List Oper → Prop
  | _, [] => True
  | k, o :: r => SoundQ P ops Q chain R Le G n K Ke k o ∧ SoundFromQ P ops Q chain R Le G n K Ke (k + 1) r
theorem SoundFromQ.at_ {Q : Exit → Act → World → Prop} {chain : List Nat} {R : Nat → Value → World → Prop} {Le : World → World → Prop} {G : List (Option Value) → World → Prop} {n : Fr} {K Ke : Known} : ∀ {l : List Oper} {k : Nat}, SoundFromQ P ops Q chain R Le G n K Ke k l → ∀ i o, l[i]? = some o → SoundQ P ops Q chain R Le G n K Ke (k + i) o
  | [], _, _, i, o, h => by simp at h
  | x :: r, k, h, 0, o, ho => by simp at ho; subst ho; exact h.1
  | x :: r, k, h, i + 1, o, ho => by
    have := h.2.at_ i o (by simpa using ho)
    rwa [show k + 1 + i = k + (i + 1) by omega] at this

theorem wp_any_genQ {Q : Exit → Act → World → Prop} {n : Fr} {K Ke : Known} (chain : List Nat) (R : Nat → Value → World → Prop) (Le : World → World → Prop) (G : List (Option Value) → World → Prop)
    (hB : opsB ops n.n = true) (hnd : chain.Nodup) (hin : (chain.all fun c => Nat.blt c ops.size) = true) (hclear : clearB ops K = true)
    (hR : ∀ i v w w', R i v w → Le w w' → R i v w')
    (h : SoundFromQ P ops Q chain R Le G n K Ke 0 ops.toList)
    (hQ : ∀ (a : Act) (w : World) (vs : List (Option Value)), Kn n K a → vs.length = chain.length → (∀ p, p < chain.length → ∃ v, vs[p]? = some (some v)) → G vs w → (∀ i d, (ops[i]?).bind (·.dst) = some d → chain.contains i = false → R i (a.tmps.getD d undef) w) → (∀ (p c d : Nat), chain[p]? = some c → (ops[c]?).bind (·.dst) = some d → vs[p]? = some (some (a.tmps.getD d undef))) → Q .normal a w) :
    ∀ (a0 : Act) (w0 : World), Kn n K a0 → Kn n Ke a0 → G (List.replicate chain.length none) w0 → wpAnyIn (fen n.r) 0 P .any ops Q ops.size (Array.replicate ops.size false) a0 w0 := by
  have main : ∀ (fuel : Nat) (listed : Array Bool) (a : Act) (vs : List (Option Value)) (w : World), listed.toList.count false ≤ fuel → AtH ops chain R G n K Ke listed a vs w →
      wpAnyIn (fen n.r) 0 P .any ops Q fuel listed a w := by
    intro fuel
    have done : ∀ (listed : Array Bool) (a : Act) (vs : List (Option Value)) (w : World), Region.ready .any ops listed = [] → AtH ops chain R G n K Ke listed a vs w → Q .normal a w := by
      intro listed a vs w hr H
      have all : ∀ i, i < ops.size → listed.getD i false = true := fun i hi => by
        have := ready_nil hB H.size hr i hi
        have hs := H.size
        simpa [Array.getD, show i < listed.size by omega] using this
      have hin' : ∀ p c, chain[p]? = some c → c < ops.size := fun p c hc => by
        have := List.all_eq_true.1 hin _ (List.mem_of_getElem? hc)
        simpa [Nat.blt_eq] using this
      have lt_of : ∀ i d, (ops[i]?).bind (·.dst) = some d → i < ops.size := fun i d hd => by
        rcases Nat.lt_or_ge i ops.size with h | h
        · exact h
        · simp [Array.getElem?_eq_none h] at hd
      exact hQ a w vs H.kn H.len (fun p hp => (H.link p chain[p] (by simp [hp])).1 (all _ (hin' p _ (by simp [hp])))) H.now (fun i d hd hc => H.plain i d hc (all i (lt_of i d hd)) hd) (fun p c d hc hd => H.vals p c d hc (all c (hin' p c hc)) hd)
    induction fuel with
    | zero =>
      intro listed a vs w hc H
      have hr : Region.ready .any ops listed = [] := by
        cases hr : Region.ready .any ops listed with
        | nil => rfl
        | cons i r =>
          have := (mem_ready (md := .any) (ops := ops) (j := i) (listed := listed)).1 (by rw [hr]; simp)
          rw [count_zero hc i] at this
          simp at this
      exact ⟨hr, done listed a vs w hr H⟩
    | succ fuel ih =>
      intro listed a vs w hc H
      refine ⟨fun hr => done listed a vs w hr H, fun i hi => ?_⟩
      obtain ⟨hun, o, ho, haf⟩ := mem_ready.1 hi
      have hilt : i < ops.size := by
        rcases Nat.lt_or_ge i ops.size with h | h
        · exact h
        · simp [Array.getElem?_eq_none h] at ho
      have hils : i < listed.size := by have := H.size; omega
      have hun' := getD_false_of hun
      have ok := opsB_spec hB ho
      have hs2 := h.at_ i o (by simpa using ho)
      rw [Nat.zero_add] at hs2
      have after_of : ∀ j d, depB ops o j d = true → listed.getD j false = true ∧ (ops[j]?).bind (·.dst) = some d := by
        intro j d hj
        simp only [depB, Bool.and_eq_true, Array.any_eq_true, beq_iff_eq] at hj
        obtain ⟨⟨k, hk, h1, h2⟩, h3⟩ := hj
        exact ⟨h1 ▸ haf _ (Array.getElem_mem hk) h2, h3⟩
      have ctx : CtxH ops chain R G n K Ke i o a w vs := by
        have opt : ∀ p c, chain[p]? = some c → listed.getD c false = false → vs[p]? = some none := fun p c hc hl => by
          have hp : p < vs.length := by rw [H.len]; exact (List.getElem?_eq_some_iff.1 hc).1
          rw [List.getElem?_eq_getElem hp]
          cases hx : vs[p] with
          | none => rfl
          | some v =>
            have := (H.link p c hc).2 ⟨v, by rw [List.getElem?_eq_getElem hp, hx]⟩
            rw [hl] at this; cases this
        refine ⟨H.now, H.kn, fun j d hj hc => H.plain j d hc (after_of j d hj).1 (after_of j d hj).2, H.len, fun p c d hc hj => H.vals p c d hc (after_of c d hj).1 (after_of c d hj).2, fun p c hc ha => ?_, fun p c hc ha => opt p c hc ?_, fun p c hc ha => opt p c hc ?_, fun d v hd hc => H.old d v hd fun c hcd => ?_⟩
        · simp only [Array.any_eq_true, Bool.and_eq_true, beq_iff_eq] at ha
          obtain ⟨k, hk, h1, h2⟩ := ha
          exact (H.link p c hc).1 (h1 ▸ haf _ (Array.getElem_mem hk) h2)
        · cases hl : listed.getD c false with
          | false => rfl
          | true =>
            exfalso
            unfold afterB at ha
            split at ha
            · rename_i oc hoc
              simp only [Array.any_eq_true, Bool.and_eq_true, beq_iff_eq] at ha
              obtain ⟨k, hk, h1, h2⟩ := ha
              have := H.closed c oc hoc hl _ (Array.getElem_mem hk) h2
              rw [h1, hun'] at this
              cases this
            · cases ha
        · cases hl : listed.getD c false with
          | false => rfl
          | true =>
            exfalso
            have := anc_listed H.closed hl i (by simpa using ha)
            rw [hun'] at this
            cases this
        · cases hl : listed.getD c false with
          | false => rfl
          | true =>
            exfalso
            have := anc_listed H.closed hl i (by simpa using hc c hcd)
            rw [hun'] at this
            cases this
      have ctxQ : CtxQ ops chain R G n K Ke i o a w vs := ⟨ctx, fun p c hc ha => by
        simp only [Array.any_eq_true, Bool.and_eq_true] at ha
        obtain ⟨k, hk, h1, h2⟩ := ha
        exact (H.link p c hc).1 (anc_listed H.closed (haf _ (Array.getElem_mem hk) h1) c (by simpa using h2))⟩
      unfold wpOpIn
      simp only [ho]
      -- what is behind a step
      have step : ∀ (v : Value) (vs' : List (Option Value)) (w' : World), (∀ j u, R j u w → R j u w') → G vs' w' → (∀ d, o.dst = some d → chain.contains i = false → R i v w') →
          ((chain.contains i = false ∧ vs' = vs) ∨ (∃ p, chain[p]? = some i ∧ vs' = vs.set p (some v))) →
          wpAnyIn (fen n.r) 0 P .any ops Q fuel (listed.setIfInBounds i true) (Act.put a o.dst v) w' := by
        intro v vs' w' hle hG hRi hvs
        have hc' := count_set (l := listed) hils hun hc
        have hset : ∀ j, (listed.setIfInBounds i true).getD j false = true ↔ j = i ∨ listed.getD j false = true := by
          intro j
          by_cases hj : j = i
          · subst hj; simp [getD_set_eq hils]
          · rw [getD_set_ne false (Ne.symm hj)]; simp [hj]
        have hother : ∀ j k, j ≠ i → (ops[j]?).bind (·.dst) = some k → (Act.put a o.dst v).tmps.getD k undef = a.tmps.getD k undef := by
          intro j k hji hjk
          refine act_put_other (fun hd => ?_)
          have hjlt : j < ops.size := by
            rcases Nat.lt_or_ge j ops.size with h | h
            · exact h
            · simp [Array.getElem?_eq_none h] at hjk
          exact hji (ok.own k j hd hjlt hjk).symm
        have hself : ∀ d, (ops[i]?).bind (·.dst) = some d → (Act.put a o.dst v).tmps.getD d undef = v := by
          intro d hd
          rw [ho] at hd
          simp only [Option.bind_some] at hd
          rw [hd]
          exact act_put_self (by rw [H.kn.size]; exact ok.lt d hd)
        refine ih _ _ vs' w' hc' ⟨by simpa using H.size, H.kn.put_clear (fun k hk => clearB_look hclear (mem_dsts ho hk)) v, fun j d hjc hj hjd => ?_, fun p c hpc => ?_, fun p c d hpc hp hcd => ?_, ?_, fun j oj hoj hj e he hb => ?_, hG, fun d u hd hc => ?_⟩
        · by_cases hji : j = i
          · subst hji
            rw [hself d hjd]
            rw [ho] at hjd
            exact hRi d hjd hjc
          · rw [hother j d hji hjd]
            exact hle _ _ (H.plain j d hjc (((hset j).1 hj).resolve_left hji) hjd)
        · rw [hset]
          rcases hvs with ⟨hci, rfl⟩ | ⟨q, hq, rfl⟩
          · have : c ≠ i := by
              rintro rfl
              have := List.mem_of_getElem? hpc
              simp [this] at hci
            exact ⟨fun h => (H.link p c hpc).1 (h.resolve_left this), fun h => .inr ((H.link p c hpc).2 h)⟩
          · have hpl : q < vs.length := by rw [H.len]; exact (List.getElem?_eq_some_iff.1 hq).1
            by_cases hpq : p = q
            · subst hpq
              rw [hq] at hpc
              simp only [Option.some.injEq] at hpc
              subst hpc
              exact ⟨fun _ => ⟨v, by rw [List.getElem?_set_self hpl]⟩, fun _ => .inl rfl⟩
            · have hci : c ≠ i := by
                rintro rfl
                exact hpq ((List.getElem?_inj (List.getElem?_eq_some_iff.1 hpc).1 hnd).1 (hpc.trans hq.symm))
              rw [List.getElem?_set_ne (Ne.symm hpq)]
              exact ⟨fun h => (H.link p c hpc).1 (h.resolve_left hci), fun h => .inr ((H.link p c hpc).2 h)⟩
        · rcases hvs with ⟨hci, rfl⟩ | ⟨q, hq, rfl⟩
          · have hne : c ≠ i := by
              rintro rfl
              have := List.mem_of_getElem? hpc
              simp [this] at hci
            rw [hother c d hne hcd]
            exact H.vals p c d hpc (((hset c).1 hp).resolve_left hne) hcd
          · have hpl : q < vs.length := by rw [H.len]; exact (List.getElem?_eq_some_iff.1 hq).1
            by_cases hpq : p = q
            · subst hpq
              rw [hq] at hpc
              simp only [Option.some.injEq] at hpc
              subst hpc
              rw [hself d hcd, List.getElem?_set_self hpl]
            · have hne : c ≠ i := by
                rintro rfl
                exact hpq ((List.getElem?_inj (List.getElem?_eq_some_iff.1 hpc).1 hnd).1 (hpc.trans hq.symm))
              rw [hother c d hne hcd, List.getElem?_set_ne (Ne.symm hpq)]
              exact H.vals p c d hpc (((hset c).1 hp).resolve_left hne) hcd
        · rcases hvs with ⟨hci, rfl⟩ | ⟨q, hq, rfl⟩
          · exact H.len
          · rw [List.length_set]; exact H.len
        · rw [hset]
          by_cases hji : j = i
          · subst hji
            rw [ho] at hoj
            simp only [Option.some.injEq] at hoj
            subst hoj
            exact .inr (haf e he hb)
          · exact .inr (H.closed j oj hoj (((hset j).1 hj).resolve_left hji) e he hb)
        · have hne : o.dst ≠ some d := fun e => by
            have := hc i (by rw [ho]; exact e)
            rw [(hset i).2 (.inl rfl)] at this
            cases this
          rw [act_put_other hne]
          refine H.old d u hd fun c hcd => ?_
          cases hl : listed.getD c false with
          | false => rfl
          | true => have := hc c hcd; rw [(hset c).2 (.inr hl)] at this; cases this
      have known : ∀ {β : Bool}, GuardIs R o β → (∀ g b, o.guard = some (g, b) → chain.contains g = false) → Region.wanted o (yielded ops a.tmps) = β := by
        intro β hg hgc
        have known : ∀ g c d b, o.guard = some (g, b) → (∀ v w, R g v w → (d = true → v = .bool c) ∧ (d = false → v = undef)) → yielded ops a.tmps g = if d then some c else none := by
          intro g c dd b hgb hv
          obtain ⟨⟨e, he, h1, h2⟩, d, hd⟩ := ok.guard g b hgb
          have hv := hv (a.tmps.getD d undef) w (H.plain g d (hgc g b hgb) (h1 ▸ haf e he h2) hd)
          have hdlt : d < a.tmps.size := by
            obtain ⟨og, hog, hgd⟩ := Option.bind_eq_some_iff.1 hd
            rw [H.kn.size]
            exact (opsB_spec hB hog).lt d hgd
          unfold yielded
          rw [hd]
          simp only [Array.getD_eq_getD_getElem?, Array.getElem?_eq_getElem hdlt, Option.getD_some] at hv
          cases dd with
          | true => simp [hdlt, hv.1 rfl]
          | false => simp [hdlt, hv.2 rfl, undef]
        cases hg with
        | none h => unfold Region.wanted; rw [h]
        | @yes g c d h hv => have := known _ _ _ _ h hv; unfold Region.wanted; rw [h]; simp only [this]; cases d <;> simp
        | @no g c d h hv => have := known _ _ _ _ h hv; unfold Region.wanted; rw [h]; simp only [this]; cases d <;> cases c <;> simp
      rcases hs2 with ⟨hci, β, hg, hgc, hs1, hs2⟩ | ⟨p, hp, β, hg, hgc, hs1, hs2⟩
      · have hwant := known hg hgc
        cases hβ : β with
        | false =>
          rw [hβ] at hwant
          simp only [hwant, Bool.false_eq_true, if_false]
          refine ⟨fun f _ => fen_fn _ f, ?_⟩
          exact step undef vs w (fun _ _ h => h) H.now (fun _ _ _ => hs1 hβ w) (.inl ⟨hci, rfl⟩)
        | true =>
          rw [hβ] at hwant
          simp only [hwant, if_true]
          refine Oper.wpIn_mono ?_ (hs2 hβ a w vs ctxQ)
          rintro a' w' ⟨v, rfl, hle, hG, hRi⟩
          exact step v vs w' (fun j u hj => hR j u _ _ hj hle) hG (fun _ _ _ => hRi) (.inl ⟨hci, rfl⟩)
      · have hwant := known hg hgc
        have hnone : vs[p]? = some none := by
          have hp' : p < vs.length := by rw [H.len]; exact (List.getElem?_eq_some_iff.1 hp).1
          rw [List.getElem?_eq_getElem hp']
          cases hx : vs[p] with
          | none => rfl
          | some v =>
            have := (H.link p i hp).2 ⟨v, by rw [List.getElem?_eq_getElem hp', hx]⟩
            rw [hun'] at this; cases this
        have hcc : chain.contains i = true := by
          have := List.mem_of_getElem? hp
          simpa using this
        cases hβ : β with
        | false =>
          rw [hβ] at hwant
          simp only [hwant, Bool.false_eq_true, if_false]
          refine ⟨fun f _ => fen_fn _ f, ?_⟩
          exact step undef (vs.set p (some undef)) w (fun _ _ h => h) (hs1 hβ a w vs ctxQ hnone) (fun _ _ h => by rw [hcc] at h; cases h) (.inr ⟨p, hp, rfl⟩)
        | true =>
          rw [hβ] at hwant
          simp only [hwant, if_true]
          refine Oper.wpIn_mono ?_ (hs2 hβ a w vs ctxQ hnone)
          rintro a' w' ⟨v, rfl, hle, hG⟩
          exact step v (vs.set p (some v)) w' (fun j u hj => hR j u _ _ hj hle) hG (fun _ _ h => by rw [hcc] at h; cases h) (.inr ⟨p, hp, rfl⟩)
  intro a0 w0 hk0 hke h0
  have nothing' : ∀ i, (Array.replicate ops.size false).getD i false = false := fun i => by
    by_cases h : i < ops.size <;> simp [Array.getD, h]
  refine main _ _ _ (List.replicate chain.length none) _ (by simp) ⟨by simp, hk0, fun i d _ hi => ?_, fun p c hpc => ?_, fun p c d _ hp => ?_, by simp, fun i o _ hi => ?_, h0, fun d v hd _ => hke.knows d v hd⟩
  · rw [nothing'] at hi; cases hi
  · rw [nothing']
    refine ⟨fun h => (by cases h), fun ⟨v, hv⟩ => ?_⟩
    have hp := (List.getElem?_eq_some_iff.1 hpc).1
    simp [hp] at hv
  · rw [nothing'] at hp; cases hp
  · rw [nothing'] at hi; cases hi

theorem WC.genQ {id : Nat} {dr : Bool} {Q : Exit → Act → World → Prop} {n : Fr} {K : Known} {w : World} (chain : List Nat) (R : Nat → Value → World → Prop) (Le : World → World → Prop) (G : List (Option Value) → World → Prop) (K0 : Known)
    (hs : subK K0 K) (hclear : clearB ops K0 = true) (hm : P.follows .mixedOrders = true) (hB : opsB ops n.n = true) (hnd : chain.Nodup) (hin : (chain.all fun c => Nat.blt c ops.size) = true)
    (hR : ∀ i v w w', R i v w → Le w w' → R i v w') (h0 : G (List.replicate chain.length none) (bif dr then w.drew else w))
    (h : SoundFromQ P ops Q chain R Le G n K0 K 0 ops.toList)
    (hQ : ∀ (a : Act) (w : World) (vs : List (Option Value)), Kn n K0 a → vs.length = chain.length → (∀ p, p < chain.length → ∃ v, vs[p]? = some (some v)) → G vs w → (∀ i d, (ops[i]?).bind (·.dst) = some d → chain.contains i = false → R i (a.tmps.getD d undef) w) → (∀ (p c d : Nat), chain[p]? = some c → (ops[c]?).bind (·.dst) = some d → vs[p]? = some (some (a.tmps.getD d undef))) → Q .normal a w) :
    WC P n K w (.region id ops dr) Q := by
  intro a ha
  have main := wp_any_genQ (Ke := K) chain R Le G hB hnd hin hclear hR h hQ a
  cases dr with
  | true => exact wpIn_region_any hm (main _ (ha.sub hs) ha h0)
  | false => exact any_start hB (main _ (ha.sub hs) ha h0)

/-! ### Values that are told -/
/-- Which of the operations of the chain are done, and what they have yielded. -/
def Vals (vals : List Value) (m : Nat) : List (Option Value) := vals.map some ++ List.replicate (m - vals.length) none
variable {S : Nat → Prop}
def GH (S : Nat → Prop) (w0 : World) (m : Nat) (cv : List (Option (Bool × Value))) (GV : List Value → World → Prop) (vs : List (Option Value)) (w : World) : Prop :=
  ∃ vals, vals.length ≤ m ∧ vs = Vals vals m ∧ GV vals w ∧ Chg S w0 w ∧ ∀ (q : Nat) b x, cv[q]? = some (some (b, x)) → b = true → ∀ v, vals[q]? = some v → v = x
theorem vals_some {vals : List Value} {m q : Nat} {v : Value} (h : (Vals vals m)[q]? = some (some v)) : vals[q]? = some v := by
  unfold Vals at h
  rcases Nat.lt_or_ge q vals.length with hq | hq
  · rw [List.getElem?_append_left (by simpa using hq), List.getElem?_map, List.getElem?_eq_getElem hq] at h
    rw [List.getElem?_eq_getElem hq]; simpa using h
  · rw [List.getElem?_append_right (by simpa using hq), List.getElem?_replicate] at h
    split at h
    · cases h
    · cases h
theorem vals_none {vals : List Value} {m q : Nat} (h : (Vals vals m)[q]? = some none) : vals.length ≤ q := by
  unfold Vals at h
  rcases Nat.lt_or_ge q vals.length with hq | hq
  · rw [List.getElem?_append_left (by simpa using hq), List.getElem?_map, List.getElem?_eq_getElem hq] at h
    cases h
  · exact hq
theorem vals_set {vals : List Value} {m : Nat} {v : Value} (h : vals.length < m) : (Vals vals m).set vals.length (some v) = Vals (vals ++ [v]) m := by
  unfold Vals
  rw [List.set_append_right _ _ (by simp), List.map_append, List.length_append, List.append_assoc]
  congr 1
  obtain ⟨k, hk⟩ : ∃ k, m - vals.length = k + 1 := ⟨m - vals.length - 1, by omega⟩
  rw [hk, List.replicate_succ, List.length_map, Nat.sub_self, List.set_cons_zero, show m - (vals.length + [v].length) = k by simp; omega]
  rfl
/-- What an operation finds: 'l' says what the others yield, 'cv' what those of the chain do; 'early': where it must come ahead of an operation of the chain. -/
structure CtxV (ops : Array Oper) (S : Nat → Prop) (l : List (Bool × SpS S)) (chain : List Nat) (cv : List (Option (Bool × Value))) (GV : List Value → World → Prop) (n : Fr) (K Ke : Known) (w0 : World) (i : Nat) (o : Oper) (a : Act) (w : World) : Prop where
  chg : Chg S w0 w
  kn : Kn n K a
  dep : ∀ j d, depB ops o j d = true → chain.contains j = false → optS l j (a.tmps.getD d undef) w
  link : ∀ (q c d : Nat) (b : Bool) (x : Value), chain[q]? = some c → depB ops o c d = true → cv[q]? = some (some (b, x)) → b = true → a.tmps.getD d undef = x
  old : ∀ d v, look Ke d = some v → earlyB ops i d = true → a.tmps.getD d undef = v
  early : ∀ (q c : Nat), chain[q]? = some c → (ancL ops c).contains i = true → ∃ vals, vals.length ≤ q ∧ GV vals w ∧ ∀ (q' c' d : Nat), chain[q']? = some c' → depB ops o c' d = true → vals[q']? = some (a.tmps.getD d undef)
/-- .. and an operation of the chain: what was yielded before it. -/
structure CtxW (ops : Array Oper) (S : Nat → Prop) (l : List (Bool × SpS S)) (chain : List Nat) (cv : List (Option (Bool × Value))) (GV : List Value → World → Prop) (n : Fr) (K Ke : Known) (w0 : World) (i p : Nat) (o : Oper) (a : Act) (w : World) (vals : List Value) : Prop extends CtxV ops S l chain cv GV n K Ke w0 i o a w where
  len : vals.length = p
  now : GV vals w
  val : ∀ (q c d : Nat), chain[q]? = some c → depB ops o c d = true → vals[q]? = some (a.tmps.getD d undef)
/-- That the operation 'o' comes behind the one ahead of it in the chain. -/
def behind (ops : Array Oper) (chain : List Nat) (p : Nat) (o : Oper) : Bool := match p with | 0 => true | p + 1 => match chain[p]? with | some c => o.after.any (fun e => Region.binds .any e && (ancL ops e.on).contains c) | none => false
def SeqV (P : Program) (ops : Array Oper) (Q : Exit → Act → World → Prop) (l : List (Bool × SpS S)) (chain : List Nat) (cv : List (Option (Bool × Value))) (GV : List Value → World → Prop) (n : Fr) (K Ke : Known) (w0 : World) : Nat → List Oper → Prop
  | _, [] => True
  | i, o :: r => ((chain.contains i = false ∧ ∃ β, GuardIs (optS l) o β ∧ (∀ g b, o.guard = some (g, b) → chain.contains g = false) ∧ (β = false → ∀ w, optS l i undef w) ∧
      (β = true → ∀ a w, CtxV ops S l chain cv GV n K Ke w0 i o a w → o.wp P a w (fun a' w' => ∃ v, a' = Act.put a o.dst v ∧ Below w.heap.size w w' ∧ optS l i v w') Q)) ∨
    (∃ p, chain[p]? = some i ∧ behind ops chain p o = true ∧ ∃ β, GuardIs (optS l) o β ∧ (∀ g b, o.guard = some (g, b) → chain.contains g = false) ∧
      (β = false → ∀ w vals, vals.length = p → GV vals w → GV (vals ++ [undef]) w ∧ ∀ b x, cv[p]? = some (some (b, x)) → b = true → undef = x) ∧
      (β = true → ∀ a w vals, CtxW ops S l chain cv GV n K Ke w0 i p o a w vals → o.wp P a w (fun a' w' => ∃ v, a' = Act.put a o.dst v ∧ Chg S w w' ∧ GV (vals ++ [v]) w' ∧ ∀ b x, cv[p]? = some (some (b, x)) → b = true → v = x) Q))) ∧ SeqV P ops Q l chain cv GV n K Ke w0 (i + 1) r
theorem cv_snoc {cv : List (Option (Bool × Value))} {vals : List Value} {v : Value} (h : ∀ (q : Nat) b x, cv[q]? = some (some (b, x)) → b = true → ∀ v, vals[q]? = some v → v = x) (hv : ∀ b x, cv[vals.length]? = some (some (b, x)) → b = true → v = x) : ∀ (q : Nat) b x, cv[q]? = some (some (b, x)) → b = true → ∀ u, (vals ++ [v])[q]? = some u → u = x := by
  intro q b x hq hb u hu
  rcases Nat.lt_trichotomy q vals.length with c | c | c
  · rw [List.getElem?_append_left c] at hu; exact h q b x hq hb u hu
  · subst c
    rw [List.getElem?_append_right (Nat.le_refl _), Nat.sub_self] at hu
    have : v = u := by simpa using hu
    rw [← this]; exact hv b x hq hb
  · rw [List.getElem?_append_right (by omega)] at hu
    obtain ⟨k, hk⟩ : ∃ k, q - vals.length = k + 1 := ⟨q - vals.length - 1, by omega⟩
    rw [hk] at hu; cases hu
theorem SeqV.gen {Q : Exit → Act → World → Prop} {l : List (Bool × SpS S)} {chain : List Nat} {cv : List (Option (Bool × Value))} {GV : List Value → World → Prop} {n : Fr} {K Ke : Known} {w0 : World} (hGV : ∀ vals w w', Below w.heap.size w w' → GV vals w → GV vals w') : ∀ {lo : List Oper} {i : Nat}, SeqV P ops Q l chain cv GV n K Ke w0 i lo →
    SoundFromQ P ops Q chain (optS l) (Chg S) (GH S w0 chain.length cv GV) n K Ke i lo
  | [], _, _ => trivial
  | o :: r, i, ⟨h, hr⟩ => by
    refine ⟨?_, hr.gen hGV⟩
    have ctx : ∀ {a w vs vals}, CtxQ ops chain (optS l) (GH S w0 chain.length cv GV) n K Ke i o a w vs → vs = Vals vals chain.length → Chg S w0 w → (∀ (q : Nat) b x, cv[q]? = some (some (b, x)) → b = true → ∀ v, vals[q]? = some v → v = x) → GV vals w → CtxV ops S l chain cv GV n K Ke w0 i o a w := fun {a w vs vals} C e hc hv hg =>
      ⟨hc, C.kn, C.dep, fun q c d b x h1 h2 h3 h4 => hv q b x h3 h4 _ (vals_some (e ▸ C.link q c d h1 h2)), fun d v hd hb => C.old d v hd (earlyB_of hb), fun q c h1 h2 => ⟨vals, vals_none (e ▸ C.mostT q c h1 h2), hg, fun q' c' d h3 h4 => vals_some (e ▸ C.link q' c' d h3 h4)⟩⟩
    rcases h with ⟨hi, β, h1, h2, h3, h4⟩ | ⟨p, hp, hbh, β, h1, h2, h3, h4⟩
    · refine .inl ⟨hi, β, h1, h2, h3, fun hβ a w vs C => ?_⟩
      obtain ⟨vals, k1, k2, k3, k4, k5⟩ := C.now
      refine Oper.wpIn_mono ?_ (wpIn_of (h4 hβ a w (ctx C k2 k4 k5 k3)) (by rintro a' w' ⟨v, rfl, _⟩; exact put_defers _ _ _))
      rintro a' w' ⟨v, rfl, hb, hR⟩
      exact ⟨v, rfl, .ofBelow hb, ⟨vals, k1, k2, hGV _ _ _ hb k3, k4.trans (.ofBelow hb), k5⟩, hR⟩
    · have hpl : p < chain.length := (List.getElem?_eq_some_iff.1 hp).1
      have len : ∀ {a w vs vals}, CtxQ ops chain (optS l) (GH S w0 chain.length cv GV) n K Ke i o a w vs → vs = Vals vals chain.length → vs[p]? = some none → vals.length = p := fun {a w vs vals} C e hn => by
        have h5 := vals_none (e ▸ hn)
        cases p with
        | zero => omega
        | succ p =>
          unfold behind at hbh
          obtain ⟨c, hc⟩ : ∃ c, chain[p]? = some c := ⟨chain[p], List.getElem?_eq_getElem (by omega)⟩
          simp only [hc] at hbh
          obtain ⟨v, hv⟩ := C.anc p c hc hbh
          have h6 := vals_some (e ▸ hv)
          have := (List.getElem?_eq_some_iff.1 h6).1
          omega
      refine .inr ⟨p, hp, β, h1, h2, fun hβ a w vs C hn => ?_, fun hβ a w vs C hn => ?_⟩
      · obtain ⟨vals, k1, k2, k3, k4, k5⟩ := C.now
        have hl := len C k2 hn
        obtain ⟨z1, z2⟩ := h3 hβ w vals hl k3
        refine ⟨vals ++ [undef], by simp; omega, ?_, z1, k4, cv_snoc k5 (hl ▸ z2)⟩
        rw [k2, ← hl, vals_set (by omega)]
      · obtain ⟨vals, k1, k2, k3, k4, k5⟩ := C.now
        have hl := len C k2 hn
        refine Oper.wpIn_mono ?_ (wpIn_of (h4 hβ a w vals ⟨ctx C k2 k4 k5 k3, hl, k3, fun q c d z1 z2 => vals_some (k2 ▸ C.link q c d z1 z2)⟩) (by rintro a' w' ⟨v, rfl, _⟩; exact put_defers _ _ _))
        rintro a' w' ⟨v, rfl, hc, z1, z2⟩
        refine ⟨v, rfl, hc, vals ++ [v], by simp; omega, ?_, z1, k4.trans hc, cv_snoc k5 (hl ▸ z2)⟩
        rw [k2, ← hl, vals_set (by omega)]
theorem cvIs {v X : Value} {β : Bool} (h : v = X) : ∀ b x, (some (some (β, X)) : Option (Option (Bool × Value))) = some (some (b, x)) → b = true → v = x := fun b x e _ => by cases e; exact h
theorem cvOff {v X : Value} {β : Bool} (h : β = false) : ∀ b x, (some (some (β, X)) : Option (Option (Bool × Value))) = some (some (b, x)) → b = true → v = x := fun b x e hb => by cases e; rw [h] at hb; cases hb
theorem cvNo {v : Value} : ∀ b x, (some none : Option (Option (Bool × Value))) = some (some (b, x)) → b = true → v = x := fun b x e => by cases e
theorem vlen0 {l : List Value} (h : l.length = 0) : l = [] := List.length_eq_zero_iff.1 h
theorem vlen1 {l : List Value} (h : l.length = 1) : ∃ a, l = [a] := by
  match l, h with
  | [a], _ => exact ⟨a, rfl⟩
theorem vlen2 {l : List Value} (h : l.length = 2) : ∃ a b, l = [a, b] := by
  match l, h with
  | [a, b], _ => exact ⟨a, b, rfl⟩
theorem vlen3 {l : List Value} (h : l.length = 3) : ∃ a b c, l = [a, b, c] := by
  match l, h with
  | [a, b, c], _ => exact ⟨a, b, c, rfl⟩
theorem vlen4 {l : List Value} (h : l.length = 4) : ∃ a b c d, l = [a, b, c, d] := by
  match l, h with
  | [a, b, c, d], _ => exact ⟨a, b, c, d, rfl⟩
theorem vlen5 {l : List Value} (h : l.length = 5) : ∃ a b c d e, l = [a, b, c, d, e] := by
  match l, h with
  | [a, b, c, d, e], _ => exact ⟨a, b, c, d, e, rfl⟩
theorem WC.seqV {id : Nat} {dr : Bool} {Q : Exit → Act → World → Prop} {n : Fr} {K : Known} {w : World} (l : List (Bool × SpS S)) (K0 : Known) (chain : List Nat) (cv : List (Option (Bool × Value))) (GV : List Value → World → Prop) (hGV : ∀ vals w w', Below w.heap.size w w' → GV vals w → GV vals w') (hnd : chain.Nodup)
    (hs : subK K0 K) (hclear : clearB ops K0 = true) (hm : P.follows .mixedOrders = true) (hB : opsB ops n.n = true) (hin : (chain.all fun c => Nat.blt c ops.size) = true) (h0 : GV [] w)
    (h : SeqV P ops Q l chain cv GV n K0 K w 0 ops.toList)
    (hQ : ∀ (a : Act) (w' : World) (vals : List Value), Kn n K0 a → vals.length = chain.length → GV vals w' → Chg S w w' → (∀ i d, (ops[i]?).bind (·.dst) = some d → chain.contains i = false → optS l i (a.tmps.getD d undef) w') → (∀ (p c d : Nat), chain[p]? = some c → (ops[c]?).bind (·.dst) = some d → vals[p]? = some (a.tmps.getD d undef)) → (∀ (p c d : Nat) b x, chain[p]? = some c → (ops[c]?).bind (·.dst) = some d → cv[p]? = some (some (b, x)) → b = true → a.tmps.getD d undef = x) → Q .normal a w') :
    WC P n K w (.region id ops dr) Q := by
  refine WC.genQ chain (optS l) (Chg S) (GH S w chain.length cv GV) K0 hs hclear hm hB hnd hin (optSKeep l) ?_ (h.gen hGV) (fun a w' vs hk hlen hall hG hu hl => ?_)
  · refine ⟨[], Nat.zero_le _, by simp [Vals], ?_, ?_, fun q b x _ _ v hv => (nomatch hv)⟩
    · cases dr with
      | true => exact hGV _ _ _ (Below.refl _ _).drew h0
      | false => exact h0
    · cases dr with
      | true => exact .ofBelow (Below.refl _ _).drew
      | false => exact .ofBelow (Below.refl _ _)
  · obtain ⟨vals, k1, k2, k3, k4, k5⟩ := hG
    have hlv : vals.length = chain.length := by
      rcases Nat.lt_or_ge vals.length chain.length with c | c
      · obtain ⟨v, hv⟩ := hall vals.length c
        have h6 := (List.getElem?_eq_some_iff.1 (vals_some (k2 ▸ hv))).1
        omega
      · omega
    have hv : ∀ (p c d : Nat), chain[p]? = some c → (ops[c]?).bind (·.dst) = some d → vals[p]? = some (a.tmps.getD d undef) := fun p c d z1 z2 => vals_some (k2 ▸ hl p c d z1 z2)
    exact hQ a w' vals hk hlv k3 k4 hu hv (fun p c d b x z1 z2 z3 z4 => k5 p b x z3 z4 _ (hv p c d z1 z2))
end
end Go.Proofs.Ytgechlgdnnpoeaa
