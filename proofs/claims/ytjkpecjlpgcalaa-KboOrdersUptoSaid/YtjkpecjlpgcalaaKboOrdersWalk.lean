/- The walk through KboOrders: it answers true. -/
import Derived.Test.YtjkpecjlpgcalaaLawRows
import Derived.Test.YtjkpecjlpgcalaaKboLaws
import Derived.Test.YtjkpecjlpgcalaaKboCmp
import Derived.Test.YtjkpecjlpgcalaaSame
import Derived.Test.YtjkpecjlpgcalaaWakes
namespace Go.Proofs.Ytjkpecjlpgcalaa
open Go.RowKit Go.Sort Go

def ordersSp (w : World) (o : Od) (s t : T) (a3 a4 e1 e2 : Option Addr) (c3 c4 d1 d2 : Nat) (rss rts rst : Int) (sm : Bool) : List (Bool × Sp) := [(true, .val ((.agg #[.bool o.lpo, .slice a3 o.prec.length c3, .slice a4 o.weights.length c4, .int .i64 o.var]))), (true, .val ((.agg #[.int .i64 s.f, .slice e1 s.args.length d1]))), (true, .val ((.agg #[.int .i64 s.f, .slice e1 s.args.length d1]))), (true, .val (.int .i64 rss)), (true, .val (.bool ((rss : Int) != (2 : Int)))), (true, .val (.bool ((rss : Int) != (2 : Int)))), ((true && !((rss : Int) != (2 : Int))), .val ((.agg #[.bool o.lpo, .slice a3 o.prec.length c3, .slice a4 o.weights.length c4, .int .i64 o.var]))), ((true && !((rss : Int) != (2 : Int))), .val ((.agg #[.int .i64 t.f, .slice e2 t.args.length d2]))), ((true && !((rss : Int) != (2 : Int))), .val ((.agg #[.int .i64 s.f, .slice e1 s.args.length d1]))), ((true && !((rss : Int) != (2 : Int))), .val (.int .i64 rts)), ((true && !((rss : Int) != (2 : Int))), .val ((.agg #[.bool o.lpo, .slice a3 o.prec.length c3, .slice a4 o.weights.length c4, .int .i64 o.var]))), ((true && !((rss : Int) != (2 : Int))), .val ((.agg #[.int .i64 s.f, .slice e1 s.args.length d1]))), ((true && !((rss : Int) != (2 : Int))), .val ((.agg #[.int .i64 t.f, .slice e2 t.args.length d2]))), ((true && !((rss : Int) != (2 : Int))), .val (.int .i64 rst)), ((true && !((rss : Int) != (2 : Int))), .val (.int .i64 (Od.turn rst))), ((true && !((rss : Int) != (2 : Int))), .val (.bool ((rts : Int) != ((Od.turn rst) : Int)))), (true, .val (.bool (((rss : Int) != (2 : Int)) || ((rts : Int) != ((Od.turn rst) : Int))))), (true, .val (.bool (((rss : Int) != (2 : Int)) || ((rts : Int) != ((Od.turn rst) : Int))))), ((true && !(((rss : Int) != (2 : Int)) || ((rts : Int) != ((Od.turn rst) : Int)))), .val ((.agg #[.bool o.lpo, .slice a3 o.prec.length c3, .slice a4 o.weights.length c4, .int .i64 o.var]))), ((true && !(((rss : Int) != (2 : Int)) || ((rts : Int) != ((Od.turn rst) : Int)))), .val ((.agg #[.int .i64 s.f, .slice e1 s.args.length d1]))), ((true && !(((rss : Int) != (2 : Int)) || ((rts : Int) != ((Od.turn rst) : Int)))), .val ((.agg #[.int .i64 t.f, .slice e2 t.args.length d2]))), ((true && !(((rss : Int) != (2 : Int)) || ((rts : Int) != ((Od.turn rst) : Int)))), .val (.int .i64 rst)), ((true && !(((rss : Int) != (2 : Int)) || ((rts : Int) != ((Od.turn rst) : Int)))), .val (.bool ((rst : Int) == (2 : Int)))), ((true && !(((rss : Int) != (2 : Int)) || ((rts : Int) != ((Od.turn rst) : Int)))), .val ((.agg #[.int .i64 s.f, .slice e1 s.args.length d1]))), ((true && !(((rss : Int) != (2 : Int)) || ((rts : Int) != ((Od.turn rst) : Int)))), .val ((.agg #[.int .i64 t.f, .slice e2 t.args.length d2]))), ((true && !(((rss : Int) != (2 : Int)) || ((rts : Int) != ((Od.turn rst) : Int)))), .val (.bool sm)), ((true && !(((rss : Int) != (2 : Int)) || ((rts : Int) != ((Od.turn rst) : Int)))), .val (.bool ((((rst : Int) == (2 : Int)) : Bool) != (sm : Bool)))), (true, .val (.bool ((((rss : Int) != (2 : Int)) || ((rts : Int) != ((Od.turn rst) : Int))) || ((((rst : Int) == (2 : Int)) : Bool) != (sm : Bool)))))]

theorem lturned_any (r : Int) (w : World) : Calls Try.prog 16 #[.int .i64 r] w fun e w' => e = .returned (.int .i64 (Od.turn r)) ∧ Below w.heap.size w w' := by
  have E : Od.turn r = if r = 1 then 3 else if r = 3 then 1 else r := rfl
  by_cases h1 : r = 1
  · have HE := Lib.hid (show Od.turn r = 3 by rw [E, if_pos h1])
    clear E
    go_enter Try.func16, Try.ntmps16
    have q1 : (r == 1) = true := by simp [h1]
    clear h1
    go_wp2_with fail
    go_ret
    exact ⟨rint HE.out, Below.refl _ _⟩
  · have q1 : (r == 1) = false := by simpa using h1
    by_cases h2 : r = 3
    · have HE := Lib.hid (show Od.turn r = 1 by rw [E, if_neg h1, if_pos h2])
      have q2 : (r == 3) = true := by simp [h2]
      clear E h1 h2
      go_enter Try.func16, Try.ntmps16
      go_wp2_with fail
      go_ret
      exact ⟨rint HE.out, Below.refl _ _⟩
    · have HE := Lib.hid (show Od.turn r = r by rw [E, if_neg h1, if_neg h2])
      have q2 : (r == 3) = false := by simpa using h2
      clear E h1 h2
      go_enter Try.func16, Try.ntmps16
      go_wp2_with fail
      go_ret
      exact ⟨rint HE.out, Below.refl _ _⟩

set_option maxRecDepth 100000 in
set_option maxHeartbeats 8000000 in
theorem orders_any (sg : List Sy) (o : Od) (s t u : T) (w : World) (vs vo v1 v2 v3 : Value) (zs : s.size ≤ 4294967296) (zt : t.size ≤ 4294967296) (zu : u.size ≤ 4294967296) (hs : IsSig w sg vs) (ho : IsOd w o vo) (h1 : IsT w s v1) (h2 : IsT w t v2) (h3 : IsT w u v3) :
    Calls Try.prog 4 #[vs, vo, v1, v2, v3] w fun e w' => e = .returned (.bool true) ∧ Below w.heap.size w w' := by
  have WK := fun w => wakes_any w
  have hz : ∀ x ∈ [s, t, u], x.size ≤ 4294967296 := by simp [zs, zt, zu]
  have Hhs := Lib.hid hs
  have Hho := Lib.hid ho
  have Hh1 := Lib.hid h1
  have Hh2 := Lib.hid h2
  have Hh3 := Lib.hid h3
  obtain ⟨a, c, rfl, _, _, _⟩ := hs
  obtain ⟨a3, a4, c3, c4, rfl, n1, n2, n3, n4, _, _, _⟩ := ho
  obtain ⟨_, e1, d1, rfl, _, _, _⟩ := h1.form
  obtain ⟨_, e2, d2, rfl, _, _, _⟩ := h2.form
  obtain ⟨_, e3, d3, rfl, _, _, _⟩ := h3.form
  clear h1 h2 h3
  have Hhz := Lib.hid hz
  clear hz n1 n2 n3 n4
  go_enter Try.func4, Try.ntmps4
  go_wp2_with fail
  refine (great_row (w := ((((w.alloc _).alloc _).alloc _).alloc _).alloc _) (by simp) (terms3 (t := s) (s := t) (r := u) (Hh1.out.below ?b1) (Hh2.out.below ?b1) (Hh3.out.below ?b1))).mono ?_
  case b1 => exact bstep (balloc2 _ _ _) (bstep (balloc2 _ _ _) (balloc _ _))
  rintro e w1 ⟨⟨b, rfl⟩, hb1⟩
  obtain ⟨B0, B1, B2, B3, B4, hw⟩ := box5 hb1
  clear hb1
  have Hhw := Lib.hid hw
  have HB0 := Lib.hid B0
  have HB1 := Lib.hid B1
  have HB2 := Lib.hid B2
  have HB3 := Lib.hid B3
  have HB4 := Lib.hid B4
  clear hw B0 B1 B2 B3 B4
  have k0 := HB0.out 0 _ rfl
  obtain ⟨u0, u1, u2, u3⟩ := HB1.out.four
  obtain ⟨s0, s1⟩ := HB2.out.two
  obtain ⟨t0, t1⟩ := HB3.out.two
  obtain ⟨q0, q1⟩ := HB4.out.two
  cases b with
  | true =>
    go_wp2_with fail
    refine (WK _).mono ?_
    rintro e w9 ⟨rfl, hb9⟩
    go_wp2_with fail
    go_ret
    exact ⟨rfl, bstep Hhw.out hb9⟩
  | false =>
    go_wp2_with fail
    refine (fits_row (w := w1) Hhz.out rfl (Hhs.out.below Hhw.out) (Hho.out.below Hhw.out) (terms3 (t := s) (s := t) (r := u) (Hh1.out.below Hhw.out) (Hh2.out.below Hhw.out) (Hh3.out.below Hhw.out))).mono ?_
    rintro e w2 ⟨⟨b, rfl, hb⟩, hb2⟩
    clear k0 u0 u1 u2 u3 s0 s1 t0 t1 q0 q1
    have hw := Lib.hid (bstep Hhw.out hb2)
    have B0 := HB0.out.below hb2
    have B1 := HB1.out.below hb2
    have B2 := HB2.out.below hb2
    have B3 := HB3.out.below hb2
    have B4 := HB4.out.below hb2
    clear Hhw HB0 HB1 HB2 HB3 HB4 hb2
    have Hhw := hw
    clear hw
    have HB0 := Lib.hid B0
    have HB1 := Lib.hid B1
    have HB2 := Lib.hid B2
    have HB3 := Lib.hid B3
    have HB4 := Lib.hid B4
    clear B0 B1 B2 B3 B4
    have k0 := HB0.out 0 _ rfl
    obtain ⟨u0, u1, u2, u3⟩ := HB1.out.four
    obtain ⟨s0, s1⟩ := HB2.out.two
    obtain ⟨t0, t1⟩ := HB3.out.two
    obtain ⟨q0, q1⟩ := HB4.out.two
    cases b with
    | false =>
      clear hb
      go_wp2_with fail
      refine (WK _).mono ?_
      rintro e w9 ⟨rfl, hb9⟩
      go_wp2_with fail
      go_ret
      exact ⟨rfl, bstep Hhw.out hb9⟩
    | true =>
      have hf := Od.fit_of (hb rfl)
      clear hb
      have G := hf.1
      have Fs := hf.2 s (by simp)
      have Ft := hf.2 t (by simp)
      have Fu := hf.2 u (by simp)
      have hr1 := G.Cmp_self Fs
      have hr2 := G.Cmp_turn Fs Ft
      have hr3 := G.Cmp_same Fs Ft
      have hr4 := G.Cmp_trans Fs Ft Fu
      clear hf G Fs Ft Fu
      have Kss := fun w vo v u a b c => kCmp_any o s s w vo v u zs zs a b c
      have Kts := fun w vo v u a b c => kCmp_any o t s w vo v u zt zs a b c
      have Kst := fun w vo v u a b c => kCmp_any o s t w vo v u zs zt a b c
      have KSM := fun w v u a b => rsame_any s t w v u a b
      have A1 := fun w vo v x a b c => kAbove_any o s t w vo v x zs zt a b c
      have A2 := fun w vo v x a b c => kAbove_any o t u w vo v x zt zu a b c
      have A3 := fun w vo v x a b c => kAbove_any o s u w vo v x zs zu a b c
      generalize (o.Cmp s t == 3) = p1 at *
      generalize (o.Cmp t u == 3) = p2 at *
      generalize (o.Cmp s u == 3) = p3 at *
      generalize o.Cmp s s = rss at *
      generalize o.Cmp t s = rts at *
      generalize o.Cmp s t = rst at *
      generalize T.same s t = sm at *
      have Hr := Lib.hid (And.intro hr1 (And.intro hr2 hr3))
      have Hr4 := Lib.hid hr4
      clear hr1 hr2 hr3 hr4
      have Hho2 := Lib.hid (Hho.out.below Hhw.out)
      have Hhs2 := Lib.hid (Hh1.out.below Hhw.out)
      have Hht2 := Lib.hid (Hh2.out.below Hhw.out)
      have HKss := Lib.hid Kss
      have HKts := Lib.hid Kts
      have HKst := Lib.hid Kst
      have HKSM := Lib.hid KSM
      have HA1 := Lib.hid A1
      have HA2 := Lib.hid A2
      have HA3 := Lib.hid A3
      have Hu0 := Lib.hid u0
      have Hu1 := Lib.hid u1
      have Hu2 := Lib.hid u2
      have Hu3 := Lib.hid u3
      have Hs0 := Lib.hid s0
      have Hs1 := Lib.hid s1
      have Ht0 := Lib.hid t0
      have Ht1 := Lib.hid t1
      clear Kss Kts Kst KSM A1 A2 A3 u0 u1 u2 u3 s0 s1 t0 t1
      have Kss := HKss
      have Kts := HKts
      have Kst := HKst
      have KSM := HKSM
      clear HKss HKts HKst HKSM
      go_wp2_with (with_reducible refine stop_region ?_)
      refine Stop.mk ?_
      refine wp_region_lit (optR (ordersSp w o s t a3 a4 e1 e2 c3 c4 d1 d2 rss rts rst sm)) [false, false, false, false, false, false, false, false, false, false, false, false, false, false, false, false, false, false, false, false, false, false, false, false, false, false, false, true, true, true, true, true, true, true, true, true, true, true, true, true, true, true, true, true, true, true, true, true, true, true, true, true, true, true, true, false, false, false, false, false, false, false, false, false, false, false, false, false, false, false, false, false, false, false, false, false] (by kernel_rfl) (by kernel_rfl) (by kernel_rfl) (optKeep _) ?_ ?_
      · refine ⟨⟨true, .none rfl, fun h w => optUndef h, fun hβ fx wx hwx hn hd => ?_⟩, ?_⟩
        · exact wp_ld_apiOrder rfl ((rel_eval (by kernel_rfl)).trans (show fx 6 = .pointer (some ⟨(w.heap.size + 1), 0, none⟩) from hn 6 (by kernel_rfl))) (bkeeps hwx _ _ (Hu0.out)) (bkeeps hwx _ _ (Hu1.out)) (bkeeps hwx _ _ (Hu2.out)) (bkeeps hwx _ _ (Hu3.out)) ⟨_, rfl, Below.refl _ _, optDef hβ rfl⟩
        refine ⟨⟨true, .none rfl, fun h w => optUndef h, fun hβ fx wx hwx hn hd => ?_⟩, ?_⟩
        · exact wp_ld_apiTerm rfl ((rel_eval (by kernel_rfl)).trans (show fx 7 = .pointer (some ⟨(w.heap.size + 2), 0, none⟩) from hn 7 (by kernel_rfl))) (bkeeps hwx _ _ (Hs0.out)) (bkeeps hwx _ _ (Hs1.out)) ⟨_, rfl, Below.refl _ _, optDef hβ rfl⟩
        refine ⟨⟨true, .none rfl, fun h w => optUndef h, fun hβ fx wx hwx hn hd => ?_⟩, ?_⟩
        · exact wp_ld_apiTerm rfl ((rel_eval (by kernel_rfl)).trans (show fx 7 = .pointer (some ⟨(w.heap.size + 2), 0, none⟩) from hn 7 (by kernel_rfl))) (bkeeps hwx _ _ (Hs0.out)) (bkeeps hwx _ _ (Hs1.out)) ⟨_, rfl, Below.refl _ _, optDef hβ rfl⟩
        refine ⟨⟨true, .none rfl, fun h w => optUndef h, fun hβ fx wx hwx hn hd => ?_⟩, ?_⟩
        · exact wp_call (by kernel_rfl) rfl (hv3 ((rel_eval (by kernel_rfl)).trans (optVal (x := (.agg #[.bool o.lpo, .slice a3 o.prec.length c3, .slice a4 o.weights.length c4, .int .i64 o.var])) (β := true) (hd 0 27 (by kernel_rfl)) rfl rfl)) ((rel_eval (by kernel_rfl)).trans (optVal (x := (.agg #[.int .i64 s.f, .slice e1 s.args.length d1])) (β := true) (hd 1 28 (by kernel_rfl)) rfl rfl)) ((rel_eval (by kernel_rfl)).trans (optVal (x := (.agg #[.int .i64 s.f, .slice e1 s.args.length d1])) (β := true) (hd 2 29 (by kernel_rfl)) rfl rfl))) (spec_of2 (Kss.out _ _ _ _ (Hho2.out.below hwx) (Hhs2.out.below hwx) (Hhs2.out.below hwx))) (fun v w' h => ⟨v, rfl, h.1, optDef hβ h.2⟩)
        refine ⟨⟨true, .none rfl, fun h w => optUndef h, fun hβ fx wx hwx hn hd => ?_⟩, ?_⟩
        · exact wp_ne_apiRel rfl ((rel_eval (by kernel_rfl)).trans (optVal (x := .int .i64 rss) (β := true) (hd 3 30 (by kernel_rfl)) rfl rfl)) rfl ⟨_, rfl, Below.refl _ _, optDef hβ rfl⟩
        refine ⟨⟨true, .none rfl, fun h w => optUndef h, fun hβ fx wx hwx hn hd => ?_⟩, ?_⟩
        · exact wp_move rfl ((rel_eval (by kernel_rfl)).trans (optVal (x := .bool ((rss : Int) != (2 : Int))) (β := true) (hd 4 31 (by kernel_rfl)) rfl rfl)) ⟨_, rfl, Below.refl _ _, optDef hβ rfl⟩
        refine ⟨⟨(true && !((rss : Int) != (2 : Int))), .no (c := ((rss : Int) != (2 : Int))) (d := true) rfl (fun v w h => h), fun h w => optUndef h, fun hβ fx wx hwx hn hd => ?_⟩, ?_⟩
        · exact wp_ld_apiOrder rfl ((rel_eval (by kernel_rfl)).trans (show fx 6 = .pointer (some ⟨(w.heap.size + 1), 0, none⟩) from hn 6 (by kernel_rfl))) (bkeeps hwx _ _ (Hu0.out)) (bkeeps hwx _ _ (Hu1.out)) (bkeeps hwx _ _ (Hu2.out)) (bkeeps hwx _ _ (Hu3.out)) ⟨_, rfl, Below.refl _ _, optDef hβ rfl⟩
        refine ⟨⟨(true && !((rss : Int) != (2 : Int))), .no (c := ((rss : Int) != (2 : Int))) (d := true) rfl (fun v w h => h), fun h w => optUndef h, fun hβ fx wx hwx hn hd => ?_⟩, ?_⟩
        · exact wp_ld_apiTerm rfl ((rel_eval (by kernel_rfl)).trans (show fx 8 = .pointer (some ⟨(w.heap.size + 3), 0, none⟩) from hn 8 (by kernel_rfl))) (bkeeps hwx _ _ (Ht0.out)) (bkeeps hwx _ _ (Ht1.out)) ⟨_, rfl, Below.refl _ _, optDef hβ rfl⟩
        refine ⟨⟨(true && !((rss : Int) != (2 : Int))), .no (c := ((rss : Int) != (2 : Int))) (d := true) rfl (fun v w h => h), fun h w => optUndef h, fun hβ fx wx hwx hn hd => ?_⟩, ?_⟩
        · exact wp_ld_apiTerm rfl ((rel_eval (by kernel_rfl)).trans (show fx 7 = .pointer (some ⟨(w.heap.size + 2), 0, none⟩) from hn 7 (by kernel_rfl))) (bkeeps hwx _ _ (Hs0.out)) (bkeeps hwx _ _ (Hs1.out)) ⟨_, rfl, Below.refl _ _, optDef hβ rfl⟩
        refine ⟨⟨(true && !((rss : Int) != (2 : Int))), .no (c := ((rss : Int) != (2 : Int))) (d := true) rfl (fun v w h => h), fun h w => optUndef h, fun hβ fx wx hwx hn hd => ?_⟩, ?_⟩
        · exact wp_call (by kernel_rfl) rfl (hv3 ((rel_eval (by kernel_rfl)).trans (optVal (x := (.agg #[.bool o.lpo, .slice a3 o.prec.length c3, .slice a4 o.weights.length c4, .int .i64 o.var])) (β := (true && !((rss : Int) != (2 : Int)))) (hd 6 33 (by kernel_rfl)) rfl hβ)) ((rel_eval (by kernel_rfl)).trans (optVal (x := (.agg #[.int .i64 t.f, .slice e2 t.args.length d2])) (β := (true && !((rss : Int) != (2 : Int)))) (hd 7 34 (by kernel_rfl)) rfl hβ)) ((rel_eval (by kernel_rfl)).trans (optVal (x := (.agg #[.int .i64 s.f, .slice e1 s.args.length d1])) (β := (true && !((rss : Int) != (2 : Int)))) (hd 8 35 (by kernel_rfl)) rfl hβ))) (spec_of2 (Kts.out _ _ _ _ (Hho2.out.below hwx) (Hht2.out.below hwx) (Hhs2.out.below hwx))) (fun v w' h => ⟨v, rfl, h.1, optDef hβ h.2⟩)
        refine ⟨⟨(true && !((rss : Int) != (2 : Int))), .no (c := ((rss : Int) != (2 : Int))) (d := true) rfl (fun v w h => h), fun h w => optUndef h, fun hβ fx wx hwx hn hd => ?_⟩, ?_⟩
        · exact wp_ld_apiOrder rfl ((rel_eval (by kernel_rfl)).trans (show fx 6 = .pointer (some ⟨(w.heap.size + 1), 0, none⟩) from hn 6 (by kernel_rfl))) (bkeeps hwx _ _ (Hu0.out)) (bkeeps hwx _ _ (Hu1.out)) (bkeeps hwx _ _ (Hu2.out)) (bkeeps hwx _ _ (Hu3.out)) ⟨_, rfl, Below.refl _ _, optDef hβ rfl⟩
        refine ⟨⟨(true && !((rss : Int) != (2 : Int))), .no (c := ((rss : Int) != (2 : Int))) (d := true) rfl (fun v w h => h), fun h w => optUndef h, fun hβ fx wx hwx hn hd => ?_⟩, ?_⟩
        · exact wp_ld_apiTerm rfl ((rel_eval (by kernel_rfl)).trans (show fx 7 = .pointer (some ⟨(w.heap.size + 2), 0, none⟩) from hn 7 (by kernel_rfl))) (bkeeps hwx _ _ (Hs0.out)) (bkeeps hwx _ _ (Hs1.out)) ⟨_, rfl, Below.refl _ _, optDef hβ rfl⟩
        refine ⟨⟨(true && !((rss : Int) != (2 : Int))), .no (c := ((rss : Int) != (2 : Int))) (d := true) rfl (fun v w h => h), fun h w => optUndef h, fun hβ fx wx hwx hn hd => ?_⟩, ?_⟩
        · exact wp_ld_apiTerm rfl ((rel_eval (by kernel_rfl)).trans (show fx 8 = .pointer (some ⟨(w.heap.size + 3), 0, none⟩) from hn 8 (by kernel_rfl))) (bkeeps hwx _ _ (Ht0.out)) (bkeeps hwx _ _ (Ht1.out)) ⟨_, rfl, Below.refl _ _, optDef hβ rfl⟩
        refine ⟨⟨(true && !((rss : Int) != (2 : Int))), .no (c := ((rss : Int) != (2 : Int))) (d := true) rfl (fun v w h => h), fun h w => optUndef h, fun hβ fx wx hwx hn hd => ?_⟩, ?_⟩
        · exact wp_call (by kernel_rfl) rfl (hv3 ((rel_eval (by kernel_rfl)).trans (optVal (x := (.agg #[.bool o.lpo, .slice a3 o.prec.length c3, .slice a4 o.weights.length c4, .int .i64 o.var])) (β := (true && !((rss : Int) != (2 : Int)))) (hd 10 37 (by kernel_rfl)) rfl hβ)) ((rel_eval (by kernel_rfl)).trans (optVal (x := (.agg #[.int .i64 s.f, .slice e1 s.args.length d1])) (β := (true && !((rss : Int) != (2 : Int)))) (hd 11 38 (by kernel_rfl)) rfl hβ)) ((rel_eval (by kernel_rfl)).trans (optVal (x := (.agg #[.int .i64 t.f, .slice e2 t.args.length d2])) (β := (true && !((rss : Int) != (2 : Int)))) (hd 12 39 (by kernel_rfl)) rfl hβ))) (spec_of2 (Kst.out _ _ _ _ (Hho2.out.below hwx) (Hhs2.out.below hwx) (Hht2.out.below hwx))) (fun v w' h => ⟨v, rfl, h.1, optDef hβ h.2⟩)
        refine ⟨⟨(true && !((rss : Int) != (2 : Int))), .no (c := ((rss : Int) != (2 : Int))) (d := true) rfl (fun v w h => h), fun h w => optUndef h, fun hβ fx wx hwx hn hd => ?_⟩, ?_⟩
        · exact wp_call (by kernel_rfl) rfl (hv1 ((rel_eval (by kernel_rfl)).trans (optVal (x := .int .i64 rst) (β := (true && !((rss : Int) != (2 : Int)))) (hd 13 40 (by kernel_rfl)) rfl hβ))) (spec_of2 (lturned_any _ _)) (fun v w' h => ⟨v, rfl, h.1, optDef hβ h.2⟩)
        refine ⟨⟨(true && !((rss : Int) != (2 : Int))), .no (c := ((rss : Int) != (2 : Int))) (d := true) rfl (fun v w h => h), fun h w => optUndef h, fun hβ fx wx hwx hn hd => ?_⟩, ?_⟩
        · exact wp_ne_apiRel rfl ((rel_eval (by kernel_rfl)).trans (optVal (x := .int .i64 rts) (β := (true && !((rss : Int) != (2 : Int)))) (hd 9 36 (by kernel_rfl)) rfl hβ)) ((rel_eval (by kernel_rfl)).trans (optVal (x := .int .i64 (Od.turn rst)) (β := (true && !((rss : Int) != (2 : Int)))) (hd 14 41 (by kernel_rfl)) rfl hβ)) ⟨_, rfl, Below.refl _ _, optDef hβ rfl⟩
        refine ⟨⟨true, .none rfl, fun h w => optUndef h, fun hβ fx wx hwx hn hd => ?_⟩, ?_⟩
        · exact wp_or rfl ((rel_eval (by kernel_rfl)).trans (optVal (x := .bool ((rss : Int) != (2 : Int))) (β := true) (hd 5 32 (by kernel_rfl)) rfl rfl)) (fun hp => ((rel_eval (by kernel_rfl)).trans (optVal (x := .bool ((rts : Int) != ((Od.turn rst) : Int))) (β := (true && !((rss : Int) != (2 : Int)))) (hd 15 42 (by kernel_rfl)) rfl (bMkN hβ hp)))) ⟨_, rfl, Below.refl _ _, optDef hβ rfl⟩
        refine ⟨⟨true, .none rfl, fun h w => optUndef h, fun hβ fx wx hwx hn hd => ?_⟩, ?_⟩
        · exact wp_move rfl ((rel_eval (by kernel_rfl)).trans (optVal (x := .bool (((rss : Int) != (2 : Int)) || ((rts : Int) != ((Od.turn rst) : Int)))) (β := true) (hd 16 43 (by kernel_rfl)) rfl rfl)) ⟨_, rfl, Below.refl _ _, optDef hβ rfl⟩
        refine ⟨⟨(true && !(((rss : Int) != (2 : Int)) || ((rts : Int) != ((Od.turn rst) : Int)))), .no (c := (((rss : Int) != (2 : Int)) || ((rts : Int) != ((Od.turn rst) : Int)))) (d := true) rfl (fun v w h => h), fun h w => optUndef h, fun hβ fx wx hwx hn hd => ?_⟩, ?_⟩
        · exact wp_ld_apiOrder rfl ((rel_eval (by kernel_rfl)).trans (show fx 6 = .pointer (some ⟨(w.heap.size + 1), 0, none⟩) from hn 6 (by kernel_rfl))) (bkeeps hwx _ _ (Hu0.out)) (bkeeps hwx _ _ (Hu1.out)) (bkeeps hwx _ _ (Hu2.out)) (bkeeps hwx _ _ (Hu3.out)) ⟨_, rfl, Below.refl _ _, optDef hβ rfl⟩
        refine ⟨⟨(true && !(((rss : Int) != (2 : Int)) || ((rts : Int) != ((Od.turn rst) : Int)))), .no (c := (((rss : Int) != (2 : Int)) || ((rts : Int) != ((Od.turn rst) : Int)))) (d := true) rfl (fun v w h => h), fun h w => optUndef h, fun hβ fx wx hwx hn hd => ?_⟩, ?_⟩
        · exact wp_ld_apiTerm rfl ((rel_eval (by kernel_rfl)).trans (show fx 7 = .pointer (some ⟨(w.heap.size + 2), 0, none⟩) from hn 7 (by kernel_rfl))) (bkeeps hwx _ _ (Hs0.out)) (bkeeps hwx _ _ (Hs1.out)) ⟨_, rfl, Below.refl _ _, optDef hβ rfl⟩
        refine ⟨⟨(true && !(((rss : Int) != (2 : Int)) || ((rts : Int) != ((Od.turn rst) : Int)))), .no (c := (((rss : Int) != (2 : Int)) || ((rts : Int) != ((Od.turn rst) : Int)))) (d := true) rfl (fun v w h => h), fun h w => optUndef h, fun hβ fx wx hwx hn hd => ?_⟩, ?_⟩
        · exact wp_ld_apiTerm rfl ((rel_eval (by kernel_rfl)).trans (show fx 8 = .pointer (some ⟨(w.heap.size + 3), 0, none⟩) from hn 8 (by kernel_rfl))) (bkeeps hwx _ _ (Ht0.out)) (bkeeps hwx _ _ (Ht1.out)) ⟨_, rfl, Below.refl _ _, optDef hβ rfl⟩
        refine ⟨⟨(true && !(((rss : Int) != (2 : Int)) || ((rts : Int) != ((Od.turn rst) : Int)))), .no (c := (((rss : Int) != (2 : Int)) || ((rts : Int) != ((Od.turn rst) : Int)))) (d := true) rfl (fun v w h => h), fun h w => optUndef h, fun hβ fx wx hwx hn hd => ?_⟩, ?_⟩
        · exact wp_call (by kernel_rfl) rfl (hv3 ((rel_eval (by kernel_rfl)).trans (optVal (x := (.agg #[.bool o.lpo, .slice a3 o.prec.length c3, .slice a4 o.weights.length c4, .int .i64 o.var])) (β := (true && !(((rss : Int) != (2 : Int)) || ((rts : Int) != ((Od.turn rst) : Int))))) (hd 18 45 (by kernel_rfl)) rfl hβ)) ((rel_eval (by kernel_rfl)).trans (optVal (x := (.agg #[.int .i64 s.f, .slice e1 s.args.length d1])) (β := (true && !(((rss : Int) != (2 : Int)) || ((rts : Int) != ((Od.turn rst) : Int))))) (hd 19 46 (by kernel_rfl)) rfl hβ)) ((rel_eval (by kernel_rfl)).trans (optVal (x := (.agg #[.int .i64 t.f, .slice e2 t.args.length d2])) (β := (true && !(((rss : Int) != (2 : Int)) || ((rts : Int) != ((Od.turn rst) : Int))))) (hd 20 47 (by kernel_rfl)) rfl hβ))) (spec_of2 (Kst.out _ _ _ _ (Hho2.out.below hwx) (Hhs2.out.below hwx) (Hht2.out.below hwx))) (fun v w' h => ⟨v, rfl, h.1, optDef hβ h.2⟩)
        refine ⟨⟨(true && !(((rss : Int) != (2 : Int)) || ((rts : Int) != ((Od.turn rst) : Int)))), .no (c := (((rss : Int) != (2 : Int)) || ((rts : Int) != ((Od.turn rst) : Int)))) (d := true) rfl (fun v w h => h), fun h w => optUndef h, fun hβ fx wx hwx hn hd => ?_⟩, ?_⟩
        · exact wp_eq_apiRel rfl ((rel_eval (by kernel_rfl)).trans (optVal (x := .int .i64 rst) (β := (true && !(((rss : Int) != (2 : Int)) || ((rts : Int) != ((Od.turn rst) : Int))))) (hd 21 48 (by kernel_rfl)) rfl hβ)) rfl ⟨_, rfl, Below.refl _ _, optDef hβ rfl⟩
        refine ⟨⟨(true && !(((rss : Int) != (2 : Int)) || ((rts : Int) != ((Od.turn rst) : Int)))), .no (c := (((rss : Int) != (2 : Int)) || ((rts : Int) != ((Od.turn rst) : Int)))) (d := true) rfl (fun v w h => h), fun h w => optUndef h, fun hβ fx wx hwx hn hd => ?_⟩, ?_⟩
        · exact wp_ld_apiTerm rfl ((rel_eval (by kernel_rfl)).trans (show fx 7 = .pointer (some ⟨(w.heap.size + 2), 0, none⟩) from hn 7 (by kernel_rfl))) (bkeeps hwx _ _ (Hs0.out)) (bkeeps hwx _ _ (Hs1.out)) ⟨_, rfl, Below.refl _ _, optDef hβ rfl⟩
        refine ⟨⟨(true && !(((rss : Int) != (2 : Int)) || ((rts : Int) != ((Od.turn rst) : Int)))), .no (c := (((rss : Int) != (2 : Int)) || ((rts : Int) != ((Od.turn rst) : Int)))) (d := true) rfl (fun v w h => h), fun h w => optUndef h, fun hβ fx wx hwx hn hd => ?_⟩, ?_⟩
        · exact wp_ld_apiTerm rfl ((rel_eval (by kernel_rfl)).trans (show fx 8 = .pointer (some ⟨(w.heap.size + 3), 0, none⟩) from hn 8 (by kernel_rfl))) (bkeeps hwx _ _ (Ht0.out)) (bkeeps hwx _ _ (Ht1.out)) ⟨_, rfl, Below.refl _ _, optDef hβ rfl⟩
        refine ⟨⟨(true && !(((rss : Int) != (2 : Int)) || ((rts : Int) != ((Od.turn rst) : Int)))), .no (c := (((rss : Int) != (2 : Int)) || ((rts : Int) != ((Od.turn rst) : Int)))) (d := true) rfl (fun v w h => h), fun h w => optUndef h, fun hβ fx wx hwx hn hd => ?_⟩, ?_⟩
        · exact wp_call (by kernel_rfl) rfl (hv2 ((rel_eval (by kernel_rfl)).trans (optVal (x := (.agg #[.int .i64 s.f, .slice e1 s.args.length d1])) (β := (true && !(((rss : Int) != (2 : Int)) || ((rts : Int) != ((Od.turn rst) : Int))))) (hd 23 50 (by kernel_rfl)) rfl hβ)) ((rel_eval (by kernel_rfl)).trans (optVal (x := (.agg #[.int .i64 t.f, .slice e2 t.args.length d2])) (β := (true && !(((rss : Int) != (2 : Int)) || ((rts : Int) != ((Od.turn rst) : Int))))) (hd 24 51 (by kernel_rfl)) rfl hβ))) (spec_of2 (KSM.out _ _ _ (Hhs2.out.below hwx) (Hht2.out.below hwx))) (fun v w' h => ⟨v, rfl, h.1, optDef hβ h.2⟩)
        refine ⟨⟨(true && !(((rss : Int) != (2 : Int)) || ((rts : Int) != ((Od.turn rst) : Int)))), .no (c := (((rss : Int) != (2 : Int)) || ((rts : Int) != ((Od.turn rst) : Int)))) (d := true) rfl (fun v w h => h), fun h w => optUndef h, fun hβ fx wx hwx hn hd => ?_⟩, ?_⟩
        · exact wp_ne_bool rfl ((rel_eval (by kernel_rfl)).trans (optVal (x := .bool ((rst : Int) == (2 : Int))) (β := (true && !(((rss : Int) != (2 : Int)) || ((rts : Int) != ((Od.turn rst) : Int))))) (hd 22 49 (by kernel_rfl)) rfl hβ)) ((rel_eval (by kernel_rfl)).trans (optVal (x := .bool sm) (β := (true && !(((rss : Int) != (2 : Int)) || ((rts : Int) != ((Od.turn rst) : Int))))) (hd 25 52 (by kernel_rfl)) rfl hβ)) ⟨_, rfl, Below.refl _ _, optDef hβ rfl⟩
        refine ⟨⟨true, .none rfl, fun h w => optUndef h, fun hβ fx wx hwx hn hd => ?_⟩, ?_⟩
        · exact wp_or rfl ((rel_eval (by kernel_rfl)).trans (optVal (x := .bool (((rss : Int) != (2 : Int)) || ((rts : Int) != ((Od.turn rst) : Int)))) (β := true) (hd 17 44 (by kernel_rfl)) rfl rfl)) (fun hp => ((rel_eval (by kernel_rfl)).trans (optVal (x := .bool ((((rst : Int) == (2 : Int)) : Bool) != (sm : Bool))) (β := (true && !(((rss : Int) != (2 : Int)) || ((rts : Int) != ((Od.turn rst) : Int))))) (hd 26 53 (by kernel_rfl)) rfl (bMkN hβ hp)))) ⟨_, rfl, Below.refl _ _, optDef hβ rfl⟩
        exact trivial
      intro ux w3 hb3 hu
      have eu := optVal (x := .bool ((((rss : Int) != (2 : Int)) || ((rts : Int) != ((Od.turn rst) : Int))) || ((((rst : Int) == (2 : Int)) : Bool) != (sm : Bool)))) (β := true) (hu 27 54 (by kernel_rfl)) rfl rfl
      simp only [finM]
      rw [eu]
      clear hu eu
      have hE : (((rss != 2) || (rts != Od.turn rst)) || ((rst == 2) != sm)) = false := by
        obtain ⟨h1, h2, h3⟩ := Hr.out
        rw [h1, ← h2, h3]; simp
      rw [hE]
      clear hE Hu0 Hu1 Hu2 Hu3 Hs0 Hs1 Ht0 Ht1 k0 q0 q1 Hho2 Hhs2 Hht2 Kss Kts Kst KSM
      have hw := Lib.hid (bstep Hhw.out hb3)
      have B0 := HB0.out.below hb3
      have B1 := HB1.out.below hb3
      have B2 := HB2.out.below hb3
      have B3 := HB3.out.below hb3
      have B4 := HB4.out.below hb3
      clear Hhw HB0 HB1 HB2 HB3 HB4 hb3
      have Hhw := hw
      clear hw
      have HB0 := Lib.hid B0
      have HB1 := Lib.hid B1
      have HB2 := Lib.hid B2
      have HB3 := Lib.hid B3
      have HB4 := Lib.hid B4
      clear B0 B1 B2 B3 B4
      have k0 := HB0.out 0 _ rfl
      obtain ⟨u0, u1, u2, u3⟩ := HB1.out.four
      obtain ⟨s0, s1⟩ := HB2.out.two
      obtain ⟨t0, t1⟩ := HB3.out.two
      obtain ⟨q0, q1⟩ := HB4.out.two
      go_wp2_with fail
      refine (HA1.out _ _ _ _ (Hho.out.below Hhw.out) (Hh1.out.below Hhw.out) (Hh2.out.below Hhw.out)).mono ?_
      rintro e w4 ⟨rfl, hb4⟩
      clear k0 u0 u1 u2 u3 s0 s1 t0 t1 q0 q1
      have hw := Lib.hid (bstep Hhw.out hb4)
      have B0 := HB0.out.below hb4
      have B1 := HB1.out.below hb4
      have B2 := HB2.out.below hb4
      have B3 := HB3.out.below hb4
      have B4 := HB4.out.below hb4
      clear Hhw HB0 HB1 HB2 HB3 HB4 hb4
      have Hhw := hw
      clear hw
      have HB0 := Lib.hid B0
      have HB1 := Lib.hid B1
      have HB2 := Lib.hid B2
      have HB3 := Lib.hid B3
      have HB4 := Lib.hid B4
      clear B0 B1 B2 B3 B4
      have k0 := HB0.out 0 _ rfl
      obtain ⟨u0, u1, u2, u3⟩ := HB1.out.four
      obtain ⟨s0, s1⟩ := HB2.out.two
      obtain ⟨t0, t1⟩ := HB3.out.two
      obtain ⟨q0, q1⟩ := HB4.out.two
      cases p1 with
      | false =>
        go_wp2_with fail
        refine (WK _).mono ?_
        rintro e w9 ⟨rfl, hb9⟩
        go_wp2_with fail
        go_ret
        exact ⟨rfl, bstep Hhw.out hb9⟩
      | true =>
        go_wp2_with fail
        refine (HA2.out _ _ _ _ (Hho.out.below Hhw.out) (Hh2.out.below Hhw.out) (Hh3.out.below Hhw.out)).mono ?_
        rintro e w5 ⟨rfl, hb5⟩
        clear k0 u0 u1 u2 u3 s0 s1 t0 t1 q0 q1
        have hw := Lib.hid (bstep Hhw.out hb5)
        have B0 := HB0.out.below hb5
        have B1 := HB1.out.below hb5
        have B2 := HB2.out.below hb5
        have B3 := HB3.out.below hb5
        have B4 := HB4.out.below hb5
        clear Hhw HB0 HB1 HB2 HB3 HB4 hb5
        have Hhw := hw
        clear hw
        have HB0 := Lib.hid B0
        have HB1 := Lib.hid B1
        have HB2 := Lib.hid B2
        have HB3 := Lib.hid B3
        have HB4 := Lib.hid B4
        clear B0 B1 B2 B3 B4
        have k0 := HB0.out 0 _ rfl
        obtain ⟨u0, u1, u2, u3⟩ := HB1.out.four
        obtain ⟨s0, s1⟩ := HB2.out.two
        obtain ⟨t0, t1⟩ := HB3.out.two
        obtain ⟨q0, q1⟩ := HB4.out.two
        cases p2 with
        | false =>
          go_wp2_with fail
          refine (WK _).mono ?_
          rintro e w9 ⟨rfl, hb9⟩
          go_wp2_with fail
          go_ret
          exact ⟨rfl, bstep Hhw.out hb9⟩
        | true =>
          go_wp2_with fail
          refine (HA3.out _ _ _ _ (Hho.out.below Hhw.out) (Hh1.out.below Hhw.out) (Hh3.out.below Hhw.out)).mono ?_
          rintro e w6 ⟨rfl, hb6⟩
          clear k0 u0 u1 u2 u3 s0 s1 t0 t1 q0 q1
          have hw := Lib.hid (bstep Hhw.out hb6)
          have B0 := HB0.out.below hb6
          have B1 := HB1.out.below hb6
          have B2 := HB2.out.below hb6
          have B3 := HB3.out.below hb6
          have B4 := HB4.out.below hb6
          clear Hhw HB0 HB1 HB2 HB3 HB4 hb6
          have Hhw := hw
          clear hw
          have HB0 := Lib.hid B0
          have HB1 := Lib.hid B1
          have HB2 := Lib.hid B2
          have HB3 := Lib.hid B3
          have HB4 := Lib.hid B4
          clear B0 B1 B2 B3 B4
          obtain rfl : p3 = true := by simpa using Hr4.out
          go_wp2_with fail
          refine (WK _).mono ?_
          rintro e w9 ⟨rfl, hb9⟩
          go_wp2_with fail
          go_ret
          exact ⟨rfl, bstep Hhw.out hb9⟩

end Go.Proofs.Ytjkpecjlpgcalaa
