/- The walk through KboWithin: it answers true. -/
import Derived.Test.YtjkpecjlpgcalaaLawRows
import Derived.Test.YtjkpecjlpgcalaaKboLaws
import Derived.Test.YtjkpecjlpgcalaaJoinX
import Derived.Test.YtjkpecjlpgcalaaRPutX
import Derived.Test.YtjkpecjlpgcalaaOpsPl
import Derived.Test.YtjkpecjlpgcalaaWakes
import Derived.Test.YtjkpecjlpgcalaaLawArgs2
namespace Go.Proofs.Ytjkpecjlpgcalaa
open Go.RowKit Go.Sort Go

theorem spec_slc {P : Program} {F : FuncId} {vs : Array Value} {n : Nat} {w : World} (h : Calls P F vs w fun e w' => (∃ a c, e = .returned (.slice a n c)) ∧ Below w.heap.size w w') :
    Calls P F vs w fun e w' => ∃ v', e = .returned v' ∧ (Below w.heap.size w w' ∧ ∃ a c, v' = .slice a n c) :=
  h.mono (by rintro e w' ⟨⟨a, c, rfl⟩, hb⟩; exact ⟨_, rfl, hb, a, c, rfl⟩)

theorem Od.Good.Cmp_total {o : Od} {ar : List Int} {s t : T} (G : Od.Good o ar) (hs : Od.Fit o ar s) (ht : Od.Fit o ar t) (h1 : T.vars s = []) (h2 : T.vars t = []) : o.Cmp s t ≠ 0 := by
  rw [G.Cmp_eq hs ht]
  by_cases e : s = t
  · rw [e, T.same_refl]; simp
  · have : T.same s t = false := by
      cases h : T.same s t with
      | false => rfl
      | true => exact absurd ((T.same_iff _ _).1 h) e
    rw [this]
    rcases G.kb_total s t hs.ok ht.ok h1 h2 e with h | h
    · rw [h]; simp
    · rw [h]; cases o.kb s t <;> simp

def withinSp (w : World) (o : Od) (s t : T) (a3 a4 e1 e2 : Option Addr) (c3 c4 d1 d2 n1 n2 : Nat) (rst : Int) : List (Bool × Sp) := [(true, .val ((.agg #[.int .i64 s.f, .slice e1 s.args.length d1]))), (true, .mem (fun v _ => ∃ a c, v = .slice a n1 c) (fun _ _ _ _ h => h)), (true, .val (.int .i64 n1)), (true, .val ((.agg #[.int .i64 t.f, .slice e2 t.args.length d2]))), (true, .mem (fun v _ => ∃ a c, v = .slice a n2 c) (fun _ _ _ _ h => h)), (true, .val (.int .i64 n2)), (true, .val (.int .i64 (IntKind.i64.wrap ((n1 : Int) + (n2 : Int))))), (true, .val (.bool (((IntKind.i64.wrap ((n1 : Int) + (n2 : Int))) : Int) == (0 : Int)))), (true, .val (.bool (((IntKind.i64.wrap ((n1 : Int) + (n2 : Int))) : Int) == (0 : Int)))), ((true && (((IntKind.i64.wrap ((n1 : Int) + (n2 : Int))) : Int) == (0 : Int))), .val ((.agg #[.bool o.lpo, .slice a3 o.prec.length c3, .slice a4 o.weights.length c4, .int .i64 o.var]))), ((true && (((IntKind.i64.wrap ((n1 : Int) + (n2 : Int))) : Int) == (0 : Int))), .val ((.agg #[.int .i64 s.f, .slice e1 s.args.length d1]))), ((true && (((IntKind.i64.wrap ((n1 : Int) + (n2 : Int))) : Int) == (0 : Int))), .val ((.agg #[.int .i64 t.f, .slice e2 t.args.length d2]))), ((true && (((IntKind.i64.wrap ((n1 : Int) + (n2 : Int))) : Int) == (0 : Int))), .val (.int .i64 rst)), ((true && (((IntKind.i64.wrap ((n1 : Int) + (n2 : Int))) : Int) == (0 : Int))), .val (.bool ((rst : Int) == (0 : Int)))), (true, .val (.bool ((((IntKind.i64.wrap ((n1 : Int) + (n2 : Int))) : Int) == (0 : Int)) && ((rst : Int) == (0 : Int)))))]


namespace T
theorem size_set {x : T} : ∀ (l : List T) (i : Nat) (h : i < l.length), sizeL (l.set i x) + size l[i] = sizeL l + size x
  | [], i, h => by simp at h
  | a :: r, 0, _ => by simp [sizeL]; omega
  | a :: r, i + 1, h => by
    have := size_set (x := x) r i (by simpa using h)
    simp only [List.set_cons_succ, sizeL, List.getElem_cons_succ]
    omega
theorem into_size (s : T) : ∀ (p : List Nat) (u : T), size (into u p s) ≤ size u + size s
  | [], .mk f l => by rw [into]; omega
  | i :: p, .mk f l => by
    rw [into]
    by_cases h : i < l.length
    · have h1 := size_set (x := into (l.getD i (.mk f l)) p s) l i h
      have e : l.getD i (.mk f l) = l[i] := by simp [h]
      have h2 := into_size s p l[i]
      rw [e] at h1 ⊢
      rw [size, size]
      omega
    · rw [List.set_eq_of_length_le (by omega)]; omega
end T

theorem ring_index (n : Int) (L : Nat) (h : 0 < L) (hL : L ≤ 1048576) : ∃ k : Nat, k < L ∧ (wrap64 (n.tmod L + L)).tmod L = k := by
  have h0 : (0 : Int) < L := by omega
  have h1 := Int.tmod_lt_of_pos n h0
  have h2 := Int.lt_tmod_of_pos n h0
  rw [wrap64_id ⟨by omega, by omega⟩]
  have h3 := Int.tmod_lt_of_pos (n.tmod L + L) h0
  have h4 := Int.tmod_nonneg (L : Int) (a := n.tmod L + L) (by omega)
  exact ⟨((n.tmod L + L).tmod L).toNat, by omega, by omega⟩

set_option maxRecDepth 100000 in
set_option maxHeartbeats 8000000 in
theorem within_any (sg : List Sy) (o : Od) (s t u : T) (n : Int) (w : World) (vs vo v1 v2 v3 : Value) (zs : s.size ≤ 1048576) (zt : t.size ≤ 1048576) (zu : u.size ≤ 1048576) (hs : IsSig w sg vs) (ho : IsOd w o vo) (h1 : IsT w s v1) (h2 : IsT w t v2) (h3 : IsT w u v3) (hn : I64 n) :
    Calls Try.prog 7 #[vs, vo, v1, v2, v3, .int .i64 n] w fun e w' => e = .returned (.bool true) ∧ Below w.heap.size w w' := by
  have WK := fun w => wakes_any w
  have hz : ∀ x ∈ [s, t, u], x.size ≤ 4294967296 := by intro x hx; simp at hx; rcases hx with rfl | rfl | rfl <;> omega
  have Hhs := Lib.hid hs
  have Hho := Lib.hid ho
  have Hh1 := Lib.hid h1
  have Hh2 := Lib.hid h2
  have Hh3 := Lib.hid h3
  obtain ⟨a, c, rfl, _, _, _⟩ := hs
  obtain ⟨a3, a4, c3, c4, rfl, n1, n2, n3, n4, _, _, _⟩ := ho
  obtain ⟨_, e1, d1, rfl, _, _, _⟩ := h1.form
  obtain ⟨_, e2, d2, rfl, _, _, _⟩ := h2.form
  obtain ⟨_, e3, d3, rfl, _, _, _⟩ := h3.form
  have Hhz := Lib.hid hz
  have Hzz := Lib.hid (And.intro zs (And.intro zt zu))
  have Hn := Lib.hid hn
  clear h1 h2 h3 hz n1 n2 n3 n4 zs zt zu hn
  go_enter Try.func7, Try.ntmps7
  go_wp2_with fail
  refine (great_row (w := ((((w.alloc _).alloc _).alloc _).alloc _).alloc _) (by simp) (terms3 (t := s) (s := t) (r := u) (Hh1.out.below ?b1) (Hh2.out.below ?b1) (Hh3.out.below ?b1))).mono ?_
  case b1 => exact bstep (balloc2 _ _ _) (bstep (balloc2 _ _ _) (balloc _ _))
  rintro e w1 ⟨⟨b, rfl⟩, hb1⟩
  obtain ⟨B0, B1, B2, B3, B4, hw⟩ := box5 hb1
  clear hb1
  have Hhw := Lib.hid hw
  have HB0 := Lib.hid B0
  have HB1 := Lib.hid B1
  have HB2 := Lib.hid B2
  have HB3 := Lib.hid B3
  have HB4 := Lib.hid B4
  clear hw B0 B1 B2 B3 B4
  have k0 := HB0.out 0 _ rfl
  obtain ⟨u0, u1, u2, u3⟩ := HB1.out.four
  obtain ⟨s0, s1⟩ := HB2.out.two
  obtain ⟨t0, t1⟩ := HB3.out.two
  obtain ⟨q0, q1⟩ := HB4.out.two
  cases b with
  | true =>
    go_wp2_with fail
    refine (WK _).mono ?_
    rintro e w9 ⟨rfl, hb9⟩
    go_wp2_with fail
    go_ret
    exact ⟨rfl, bstep Hhw.out hb9⟩
  | false =>
    go_wp2_with fail
    refine (fits_row (w := w1) Hhz.out rfl (Hhs.out.below Hhw.out) (Hho.out.below Hhw.out) (terms3 (t := s) (s := t) (r := u) (Hh1.out.below Hhw.out) (Hh2.out.below Hhw.out) (Hh3.out.below Hhw.out))).mono ?_
    rintro e w2 ⟨⟨b, rfl, hb⟩, hb2⟩
    clear k0 u0 u1 u2 u3 s0 s1 t0 t1 q0 q1
    have hw := Lib.hid (bstep Hhw.out hb2)
    have B0 := HB0.out.below hb2
    have B1 := HB1.out.below hb2
    have B2 := HB2.out.below hb2
    have B3 := HB3.out.below hb2
    have B4 := HB4.out.below hb2
    clear Hhw HB0 HB1 HB2 HB3 HB4 hb2
    have Hhw := hw
    clear hw
    have HB0 := Lib.hid B0
    have HB1 := Lib.hid B1
    have HB2 := Lib.hid B2
    have HB3 := Lib.hid B3
    have HB4 := Lib.hid B4
    clear B0 B1 B2 B3 B4
    have k0 := HB0.out 0 _ rfl
    obtain ⟨u0, u1, u2, u3⟩ := HB1.out.four
    obtain ⟨s0, s1⟩ := HB2.out.two
    obtain ⟨t0, t1⟩ := HB3.out.two
    obtain ⟨q0, q1⟩ := HB4.out.two
    cases b with
    | false =>
      clear hb
      go_wp2_with fail
      refine (WK _).mono ?_
      rintro e w9 ⟨rfl, hb9⟩
      go_wp2_with fail
      go_ret
      exact ⟨rfl, bstep Hhw.out hb9⟩
    | true =>
      have Hf := Lib.hid (hb rfl)
      clear hb
      have V1 := Lib.hid (fun (W : World) (v : Value) (h : IsT W s v) => vars_any s W v (by have := Hzz.out; omega) h)
      have V2 := Lib.hid (fun (W : World) (v : Value) (h : IsT W t v) => vars_any t W v (by have := Hzz.out; omega) h)
      have Kst := Lib.hid (fun (W : World) (vo v u : Value) => kCmp_any o s t W vo v u (by have := Hzz.out; omega) (by have := Hzz.out; omega))
      obtain ⟨n1, hn1⟩ : ∃ n1, n1 = (T.joinI [] s).length := ⟨_, rfl⟩
      obtain ⟨n2, hn2⟩ : ∃ n2, n2 = (T.joinI [] t).length := ⟨_, rfl⟩
      obtain ⟨rst, hrst⟩ : ∃ r, r = o.Cmp s t := ⟨_, rfl⟩
      rw [← hn1] at V1
      rw [← hn2] at V2
      rw [← hrst] at Kst
      have hE : (((IntKind.i64.wrap ((n1 : Int) + (n2 : Int)) == 0) && (rst == 0))) = false := by
        have b1 := (T.joinI_le s []).1
        have b2 := (T.joinI_le t []).1
        have z := Hzz.out
        simp at b1 b2
        rw [IntWalk.i64_in _ (by omega)]
        cases hq : ((n1 : Int) + (n2 : Int) == 0) with
        | false => rfl
        | true =>
          have hq := of_decide_eq_true (by simpa using hq : decide ((n1 : Int) + (n2 : Int) = 0) = true)
          have hf := Od.fit_of Hf.out
          have := hf.1.Cmp_total (hf.2 s (by simp)) (hf.2 t (by simp)) (T.joinI_vars s [] (by omega)) (T.joinI_vars t [] (by omega))
          rw [← hrst] at this
          simpa using this
      have Hho2 := Lib.hid (Hho.out.below Hhw.out)
      have Hhs2 := Lib.hid (Hh1.out.below Hhw.out)
      have Hht2 := Lib.hid (Hh2.out.below Hhw.out)
      have HE := Lib.hid hE
      clear hn1 hn2 hrst hE
      have Hu0 := Lib.hid u0
      have Hu1 := Lib.hid u1
      have Hu2 := Lib.hid u2
      have Hu3 := Lib.hid u3
      have Hs0 := Lib.hid s0
      have Hs1 := Lib.hid s1
      have Ht0 := Lib.hid t0
      have Ht1 := Lib.hid t1
      clear u0 u1 u2 u3 s0 s1 t0 t1
      go_wp2_with (with_reducible refine stop_region ?_)
      refine Stop.mk ?_
      refine wp_region_lit (optR (withinSp w o s t a3 a4 e1 e2 c3 c4 d1 d2 n1 n2 rst)) [false, false, false, false, false, false, false, false, false, false, false, false, false, false, false, false, false, false, false, false, false, false, false, false, false, false, false, false, false, false, false, false, false, false, false, true, true, true, true, true, true, true, true, true, true, true, true, true, true, true, false, false, false, false, false, false, false, false, false, false, false, false, false, false, false, false, false, false, false, false, false, false, false, false, false, false, false, false, false, false, false, false, false, false, false, false, false, false, false, false, false, false, false, false, false, false, false, false, false, false, false, false, false, false, false, false, false, false] (by kernel_rfl) (by kernel_rfl) (by kernel_rfl) (optKeep _) ?_ ?_
      · refine ⟨⟨true, .none rfl, fun h w => optUndef h, fun hβ fx wx hwx hn hd => ?_⟩, ?_⟩
        · exact wp_ld_apiTerm rfl ((rel_eval (by kernel_rfl)).trans (show fx 8 = .pointer (some ⟨(w.heap.size + 2), 0, none⟩) from hn 8 (by kernel_rfl))) (bkeeps hwx _ _ (Hs0.out)) (bkeeps hwx _ _ (Hs1.out)) ⟨_, rfl, Below.refl _ _, optDef hβ rfl⟩
        refine ⟨⟨true, .none rfl, fun h w => optUndef h, fun hβ fx wx hwx hn hd => ?_⟩, ?_⟩
        · exact wp_call (by kernel_rfl) rfl (hv1 ((rel_eval (by kernel_rfl)).trans (optVal (x := (.agg #[.int .i64 s.f, .slice e1 s.args.length d1])) (β := true) (hd 0 35 (by kernel_rfl)) rfl rfl))) (spec_slc (V1.out _ _ (Hhs2.out.below hwx))) (fun v w' h => ⟨v, rfl, h.1, optDef hβ h.2⟩)
        refine ⟨⟨true, .none rfl, fun h w => optUndef h, fun hβ fx wx hwx hn hd => ?_⟩, ?_⟩
        · obtain ⟨sa, sc, se⟩ := optMem (hd 1 36 (by kernel_rfl)) rfl rfl
          exact wp_len_Lint rfl ((rel_eval (by kernel_rfl)).trans se) ⟨_, rfl, Below.refl _ _, optDef hβ rfl⟩
        refine ⟨⟨true, .none rfl, fun h w => optUndef h, fun hβ fx wx hwx hn hd => ?_⟩, ?_⟩
        · exact wp_ld_apiTerm rfl ((rel_eval (by kernel_rfl)).trans (show fx 9 = .pointer (some ⟨(w.heap.size + 3), 0, none⟩) from hn 9 (by kernel_rfl))) (bkeeps hwx _ _ (Ht0.out)) (bkeeps hwx _ _ (Ht1.out)) ⟨_, rfl, Below.refl _ _, optDef hβ rfl⟩
        refine ⟨⟨true, .none rfl, fun h w => optUndef h, fun hβ fx wx hwx hn hd => ?_⟩, ?_⟩
        · exact wp_call (by kernel_rfl) rfl (hv1 ((rel_eval (by kernel_rfl)).trans (optVal (x := (.agg #[.int .i64 t.f, .slice e2 t.args.length d2])) (β := true) (hd 3 38 (by kernel_rfl)) rfl rfl))) (spec_slc (V2.out _ _ (Hht2.out.below hwx))) (fun v w' h => ⟨v, rfl, h.1, optDef hβ h.2⟩)
        refine ⟨⟨true, .none rfl, fun h w => optUndef h, fun hβ fx wx hwx hn hd => ?_⟩, ?_⟩
        · obtain ⟨sa, sc, se⟩ := optMem (hd 4 39 (by kernel_rfl)) rfl rfl
          exact wp_len_Lint rfl ((rel_eval (by kernel_rfl)).trans se) ⟨_, rfl, Below.refl _ _, optDef hβ rfl⟩
        refine ⟨⟨true, .none rfl, fun h w => optUndef h, fun hβ fx wx hwx hn hd => ?_⟩, ?_⟩
        · exact wp_add_int rfl ((rel_eval (by kernel_rfl)).trans (optVal (x := .int .i64 n1) (β := true) (hd 2 37 (by kernel_rfl)) rfl rfl)) ((rel_eval (by kernel_rfl)).trans (optVal (x := .int .i64 n2) (β := true) (hd 5 40 (by kernel_rfl)) rfl rfl)) ⟨_, rfl, Below.refl _ _, optDef hβ rfl⟩
        refine ⟨⟨true, .none rfl, fun h w => optUndef h, fun hβ fx wx hwx hn hd => ?_⟩, ?_⟩
        · exact wp_eq_int rfl ((rel_eval (by kernel_rfl)).trans (optVal (x := .int .i64 (IntKind.i64.wrap ((n1 : Int) + (n2 : Int)))) (β := true) (hd 6 41 (by kernel_rfl)) rfl rfl)) rfl ⟨_, rfl, Below.refl _ _, optDef hβ rfl⟩
        refine ⟨⟨true, .none rfl, fun h w => optUndef h, fun hβ fx wx hwx hn hd => ?_⟩, ?_⟩
        · exact wp_move rfl ((rel_eval (by kernel_rfl)).trans (optVal (x := .bool (((IntKind.i64.wrap ((n1 : Int) + (n2 : Int))) : Int) == (0 : Int))) (β := true) (hd 7 42 (by kernel_rfl)) rfl rfl)) ⟨_, rfl, Below.refl _ _, optDef hβ rfl⟩
        refine ⟨⟨(true && (((IntKind.i64.wrap ((n1 : Int) + (n2 : Int))) : Int) == (0 : Int))), .yes (c := (((IntKind.i64.wrap ((n1 : Int) + (n2 : Int))) : Int) == (0 : Int))) (d := true) rfl (fun v w h => h), fun h w => optUndef h, fun hβ fx wx hwx hn hd => ?_⟩, ?_⟩
        · exact wp_ld_apiOrder rfl ((rel_eval (by kernel_rfl)).trans (show fx 7 = .pointer (some ⟨(w.heap.size + 1), 0, none⟩) from hn 7 (by kernel_rfl))) (bkeeps hwx _ _ (Hu0.out)) (bkeeps hwx _ _ (Hu1.out)) (bkeeps hwx _ _ (Hu2.out)) (bkeeps hwx _ _ (Hu3.out)) ⟨_, rfl, Below.refl _ _, optDef hβ rfl⟩
        refine ⟨⟨(true && (((IntKind.i64.wrap ((n1 : Int) + (n2 : Int))) : Int) == (0 : Int))), .yes (c := (((IntKind.i64.wrap ((n1 : Int) + (n2 : Int))) : Int) == (0 : Int))) (d := true) rfl (fun v w h => h), fun h w => optUndef h, fun hβ fx wx hwx hn hd => ?_⟩, ?_⟩
        · exact wp_ld_apiTerm rfl ((rel_eval (by kernel_rfl)).trans (show fx 8 = .pointer (some ⟨(w.heap.size + 2), 0, none⟩) from hn 8 (by kernel_rfl))) (bkeeps hwx _ _ (Hs0.out)) (bkeeps hwx _ _ (Hs1.out)) ⟨_, rfl, Below.refl _ _, optDef hβ rfl⟩
        refine ⟨⟨(true && (((IntKind.i64.wrap ((n1 : Int) + (n2 : Int))) : Int) == (0 : Int))), .yes (c := (((IntKind.i64.wrap ((n1 : Int) + (n2 : Int))) : Int) == (0 : Int))) (d := true) rfl (fun v w h => h), fun h w => optUndef h, fun hβ fx wx hwx hn hd => ?_⟩, ?_⟩
        · exact wp_ld_apiTerm rfl ((rel_eval (by kernel_rfl)).trans (show fx 9 = .pointer (some ⟨(w.heap.size + 3), 0, none⟩) from hn 9 (by kernel_rfl))) (bkeeps hwx _ _ (Ht0.out)) (bkeeps hwx _ _ (Ht1.out)) ⟨_, rfl, Below.refl _ _, optDef hβ rfl⟩
        refine ⟨⟨(true && (((IntKind.i64.wrap ((n1 : Int) + (n2 : Int))) : Int) == (0 : Int))), .yes (c := (((IntKind.i64.wrap ((n1 : Int) + (n2 : Int))) : Int) == (0 : Int))) (d := true) rfl (fun v w h => h), fun h w => optUndef h, fun hβ fx wx hwx hn hd => ?_⟩, ?_⟩
        · exact wp_call (by kernel_rfl) rfl (hv3 ((rel_eval (by kernel_rfl)).trans (optVal (x := (.agg #[.bool o.lpo, .slice a3 o.prec.length c3, .slice a4 o.weights.length c4, .int .i64 o.var])) (β := (true && (((IntKind.i64.wrap ((n1 : Int) + (n2 : Int))) : Int) == (0 : Int)))) (hd 9 44 (by kernel_rfl)) rfl hβ)) ((rel_eval (by kernel_rfl)).trans (optVal (x := (.agg #[.int .i64 s.f, .slice e1 s.args.length d1])) (β := (true && (((IntKind.i64.wrap ((n1 : Int) + (n2 : Int))) : Int) == (0 : Int)))) (hd 10 45 (by kernel_rfl)) rfl hβ)) ((rel_eval (by kernel_rfl)).trans (optVal (x := (.agg #[.int .i64 t.f, .slice e2 t.args.length d2])) (β := (true && (((IntKind.i64.wrap ((n1 : Int) + (n2 : Int))) : Int) == (0 : Int)))) (hd 11 46 (by kernel_rfl)) rfl hβ))) (spec_of2 (Kst.out _ _ _ _ (Hho2.out.below hwx) (Hhs2.out.below hwx) (Hht2.out.below hwx))) (fun v w' h => ⟨v, rfl, h.1, optDef hβ h.2⟩)
        refine ⟨⟨(true && (((IntKind.i64.wrap ((n1 : Int) + (n2 : Int))) : Int) == (0 : Int))), .yes (c := (((IntKind.i64.wrap ((n1 : Int) + (n2 : Int))) : Int) == (0 : Int))) (d := true) rfl (fun v w h => h), fun h w => optUndef h, fun hβ fx wx hwx hn hd => ?_⟩, ?_⟩
        · exact wp_eq_apiRel rfl ((rel_eval (by kernel_rfl)).trans (optVal (x := .int .i64 rst) (β := (true && (((IntKind.i64.wrap ((n1 : Int) + (n2 : Int))) : Int) == (0 : Int)))) (hd 12 47 (by kernel_rfl)) rfl hβ)) rfl ⟨_, rfl, Below.refl _ _, optDef hβ rfl⟩
        refine ⟨⟨true, .none rfl, fun h w => optUndef h, fun hβ fx wx hwx hn hd => ?_⟩, ?_⟩
        · exact wp_and rfl ((rel_eval (by kernel_rfl)).trans (optVal (x := .bool (((IntKind.i64.wrap ((n1 : Int) + (n2 : Int))) : Int) == (0 : Int))) (β := true) (hd 8 43 (by kernel_rfl)) rfl rfl)) (fun hp => ((rel_eval (by kernel_rfl)).trans (optVal (x := .bool ((rst : Int) == (0 : Int))) (β := (true && (((IntKind.i64.wrap ((n1 : Int) + (n2 : Int))) : Int) == (0 : Int)))) (hd 13 48 (by kernel_rfl)) rfl (bMk hβ hp)))) ⟨_, rfl, Below.refl _ _, optDef hβ rfl⟩
        exact trivial
      intro ux w3 hb3 hu
      have eu := optVal (x := .bool ((((IntKind.i64.wrap ((n1 : Int) + (n2 : Int))) : Int) == (0 : Int)) && ((rst : Int) == (0 : Int)))) (β := true) (hu 14 49 (by kernel_rfl)) rfl rfl
      simp only [finM]
      rw [eu]
      clear hu eu
      rw [HE.out]
      clear HE Hu0 Hu1 Hu2 Hu3 Hs0 Hs1 Ht0 Ht1 k0 q0 q1 Hho2 Hhs2 Hht2 V1 V2 Kst
      have hw := Lib.hid (bstep Hhw.out hb3)
      have B0 := HB0.out.below hb3
      have B1 := HB1.out.below hb3
      have B2 := HB2.out.below hb3
      have B3 := HB3.out.below hb3
      have B4 := HB4.out.below hb3
      clear Hhw HB0 HB1 HB2 HB3 HB4 hb3
      have Hhw := hw
      clear hw
      have HB0 := Lib.hid B0
      have HB1 := Lib.hid B1
      have HB2 := Lib.hid B2
      have HB3 := Lib.hid B3
      have HB4 := Lib.hid B4
      clear B0 B1 B2 B3 B4
      have k0 := HB0.out 0 _ rfl
      obtain ⟨u0, u1, u2, u3⟩ := HB1.out.four
      obtain ⟨s0, s1⟩ := HB2.out.two
      obtain ⟨t0, t1⟩ := HB3.out.two
      obtain ⟨q0, q1⟩ := HB4.out.two
      have PL := places_any w.heap.size u w3 _ (by have := Hzz.out; omega) (InT.old Hhw.out (Nat.le_refl _) Hh3.out.inT) Hhw.out.size
      obtain ⟨Q, hQ⟩ : ∃ Q, Q = T.places u := ⟨_, rfl⟩
      have hQ1 : 1 ≤ Q.length ∧ Q.length ≤ 1048576 := by rw [hQ, T.places_size]; have := T.size_eq u; have := Hzz.out; omega
      have HQ := Lib.hid hQ
      rw [← hQ] at PL
      clear hQ
      go_wp2_with fail
      refine PL.mono ?_
      rintro e w4 ⟨qa, qc, rfl, hq1, hq2, hq3, hb4⟩
      clear k0 u0 u1 u2 u3 s0 s1 t0 t1 q0 q1
      have hw := Lib.hid (bstep Hhw.out hb4)
      have B0 := HB0.out.below hb4
      have B1 := HB1.out.below hb4
      have B2 := HB2.out.below hb4
      have B3 := HB3.out.below hb4
      have B4 := HB4.out.below hb4
      clear Hhw HB0 HB1 HB2 HB3 HB4 hb4
      have Hhw := hw
      clear hw
      have HB0 := Lib.hid B0
      have HB1 := Lib.hid B1
      have HB2 := Lib.hid B2
      have HB3 := Lib.hid B3
      have HB4 := Lib.hid B4
      clear B0 B1 B2 B3 B4
      have HI := Lib.hid hq3
      have hq2' := hq2
      unfold maxLen at hq2
      clear PL hq3
      have z0 : ¬ (Q.length : Int) = 0 := by omega
      obtain ⟨k, hk, he⟩ := ring_index n Q.length (by omega) (by omega)
      obtain ⟨b2, o2, q, xu, xv, rfl, hS, c0, c1, c2, hp1, ht1⟩ := HI.out k hk
      have hpx := hp1
      obtain ⟨pa, pc, rfl, hpc1, hpc2, _⟩ := hp1
      have Hpx := Lib.hid hpx
      have hwi : Od.Within u Q[k].1 := by
        have := T.places_within u Q[k] (by rw [← HQ.out]; exact List.getElem_mem hk)
        exact this
      have hpl : Q[k].1.length ≤ 4294967290 := by
        have := T.places_len u Q[k] (by rw [← HQ.out]; exact List.getElem_mem hk)
        have := Hzz.out; omega
      generalize Q[k].1 = path at *
      have Hwi := Lib.hid (And.intro hwi hpl)
      have y0 : (0 : Int) ≤ (k : Int) := by omega
      have y1 : (k : Int) < (Q.length : Int) := by omega
      clear hpx hwi hpl hS c1 c2 ht1 hk
      have k0 := HB0.out 0 _ rfl
      obtain ⟨u0, u1, u2, u3⟩ := HB1.out.four
      obtain ⟨s0, s1⟩ := HB2.out.two
      obtain ⟨t0, t1⟩ := HB3.out.two
      obtain ⟨q0, q1⟩ := HB4.out.two
      have hsu : u.size ≤ 4294967290 ∧ s.size ≤ 4294967290 ∧ t.size ≤ 4294967290 := by have := Hzz.out; omega
      have Hsu := Lib.hid hsu
      have R1 := rput_any w4.heap.size s hsu.2.1 path u w4 _ _ _ hsu.1 Hwi.out.2 (Hh3.out.below Hhw.out).inT (Hpx.out.mono (fun b _ hlt => hlt)) (Hh1.out.below Hhw.out).inT (Nat.le_refl _) Hwi.out.1
      clear hsu
      go_wp2_with fail
      refine R1.mono ?_
      rintro e w5 ⟨va, rfl, hva, hb5⟩
      have ta := hva.isT
      obtain ⟨_, aa, ca, rfl, _, _, _⟩ := ta.form
      clear R1 hva k0 u0 u1 u2 u3 s0 s1 t0 t1 q0 q1 c0
      have Hpx2 := Lib.hid (Hpx.out.keep (fun p x _ hx => bkeeps hb5 p x hx))
      have hw := Lib.hid (bstep Hhw.out hb5)
      have B0 := HB0.out.below hb5
      have B1 := HB1.out.below hb5
      have B2 := HB2.out.below hb5
      have B3 := HB3.out.below hb5
      have B4 := HB4.out.below hb5
      clear Hhw HB0 HB1 HB2 HB3 HB4 hb5
      have Hhw := hw
      clear hw
      have HB0 := Lib.hid B0
      have HB1 := Lib.hid B1
      have HB2 := Lib.hid B2
      have HB3 := Lib.hid B3
      have HB4 := Lib.hid B4
      clear B0 B1 B2 B3 B4
      clear Hpx
      have hb6 := balloc w5 (.cells #[.int .i64 (T.into u path s).f, .slice aa (T.into u path s).args.length ca] 27)
      have Hta := Lib.hid (ta.below hb6)
      have HA0 := Lib.hid (show Box (w5.alloc (.cells #[.int .i64 (T.into u path s).f, .slice aa (T.into u path s).args.length ca] 27)) w5.heap.size [.int .i64 (T.into u path s).f, .slice aa (T.into u path s).args.length ca] from Box.new _ _ _)
      have R2 := rput_any (w5.alloc (.cells #[.int .i64 (T.into u path s).f, .slice aa (T.into u path s).args.length ca] 27)).heap.size t Hsu.out.2.2 path u _ _ _ _ Hsu.out.1 Hwi.out.2 ((Hh3.out.below Hhw.out).below hb6).inT ((Hpx2.out.keep (fun p x _ hx => bkeeps hb6 p x hx)).mono (fun b _ hlt => hlt)) ((Hh2.out.below Hhw.out).below hb6).inT (Nat.le_refl _) Hwi.out.1
      have HB5 := Lib.hid hb6
      clear ta hb6
      have k0 := HB0.out 0 _ rfl
      obtain ⟨u0, u1, u2, u3⟩ := HB1.out.four
      obtain ⟨s0, s1⟩ := HB2.out.two
      obtain ⟨t0, t1⟩ := HB3.out.two
      obtain ⟨q0, q1⟩ := HB4.out.two
      have q0 := calloc q0 (.cells #[.int .i64 (T.into u path s).f, .slice aa (T.into u path s).args.length ca] 27)
      have q1 := calloc q1 (.cells #[.int .i64 (T.into u path s).f, .slice aa (T.into u path s).args.length ca] 27)
      have t0 := calloc t0 (.cells #[.int .i64 (T.into u path s).f, .slice aa (T.into u path s).args.length ca] 27)
      have t1 := calloc t1 (.cells #[.int .i64 (T.into u path s).f, .slice aa (T.into u path s).args.length ca] 27)
      clear k0 u0 u1 u2 u3 s0 s1
      go_wp2_with fail
      refine R2.mono ?_
      rintro e w6 ⟨vb, rfl, hvb, hb6⟩
      have tb := hvb.isT
      obtain ⟨_, ab, cb, rfl, _, _, _⟩ := tb.form
      clear R2 hvb t0 t1 q0 q1
      have HW6 := Lib.hid (bstep HB5.out hb6)
      have A0 := HA0.out.below hb6
      have ta := Hta.out.below hb6
      clear HA0 Hta HB5 hb6 Hpx2
      have hb7 := HW6.out
      have hw := Lib.hid (bstep Hhw.out hb7)
      have B0 := HB0.out.below hb7
      have B1 := HB1.out.below hb7
      have B2 := HB2.out.below hb7
      have B3 := HB3.out.below hb7
      have B4 := HB4.out.below hb7
      clear Hhw HB0 HB1 HB2 HB3 HB4 hb7
      have Hhw := hw
      clear hw
      have HB0 := Lib.hid B0
      have HB1 := Lib.hid B1
      have HB2 := Lib.hid B2
      have HB3 := Lib.hid B3
      have HB4 := Lib.hid B4
      clear B0 B1 B2 B3 B4
      have hb8 := balloc w6 (.cells #[.int .i64 (T.into u path t).f, .slice ab (T.into u path t).args.length cb] 27)
      have A1 : Box (w6.alloc (.cells #[.int .i64 (T.into u path t).f, .slice ab (T.into u path t).args.length cb] 27)) w6.heap.size [.int .i64 (T.into u path t).f, .slice ab (T.into u path t).args.length cb] := Box.new _ _ _
      have A0 := A0.below hb8
      have ta := ta.below hb8
      have tb := tb.below hb8
      clear HW6
      have hw := Lib.hid (bstep Hhw.out hb8)
      have B0 := HB0.out.below hb8
      have B1 := HB1.out.below hb8
      have B2 := HB2.out.below hb8
      have B3 := HB3.out.below hb8
      have B4 := HB4.out.below hb8
      clear Hhw HB0 HB1 HB2 HB3 HB4 hb8
      have Hhw := hw
      clear hw
      have HB0 := Lib.hid B0
      have HB1 := Lib.hid B1
      have HB2 := Lib.hid B2
      have HB3 := Lib.hid B3
      have HB4 := Lib.hid B4
      clear B0 B1 B2 B3 B4
      have HA0 := Lib.hid A0
      have HA1 := Lib.hid A1
      have Hta := Lib.hid ta
      have Htb := Lib.hid tb
      clear A0 A1 ta tb
      have KA := fun w vo v x a b c => kAbove_any o s t w vo v x (by have := Hzz.out; omega) (by have := Hzz.out; omega) a b c
      have hza : (T.into u path s).size ≤ 4294967296 ∧ (T.into u path t).size ≤ 4294967296 := by
        have z := Hzz.out
        have r1 := T.into_size s path u
        have r2 := T.into_size t path u
        omega
      have Hza := Lib.hid hza
      clear hza
      have KB := fun w vo v x a b c => kAbove_any o (T.into u path s) (T.into u path t) w vo v x Hza.out.1 Hza.out.2 a b c
      have Hz2 := Lib.hid (show ∀ x ∈ [T.into u path s, T.into u path t], x.size ≤ 4294967296 by intro x hx; simp at hx; rcases hx with rfl | rfl; exact Hza.out.1; exact Hza.out.2)
      have k0 := HB0.out 0 _ rfl
      obtain ⟨u0, u1, u2, u3⟩ := HB1.out.four
      obtain ⟨s0, s1⟩ := HB2.out.two
      obtain ⟨t0, t1⟩ := HB3.out.two
      obtain ⟨q0, q1⟩ := HB4.out.two
      obtain ⟨p0, p1⟩ := HA0.out.two
      obtain ⟨r0, r1⟩ := HA1.out.two
      go_wp2_with fail
      refine (great_row (w := w6.alloc _) (by simp) (terms2 (t := T.into u path s) (s := T.into u path t) Hta.out Htb.out)).mono ?_
      rintro e w7 ⟨⟨b, rfl⟩, hb7⟩
      clear k0 u0 u1 u2 u3 s0 s1 t0 t1 q0 q1 p0 p1 r0 r1
      have A0 := HA0.out.below hb7
      have A1 := HA1.out.below hb7
      have ta := Hta.out.below hb7
      have tb := Htb.out.below hb7
      clear HA0 HA1 Hta Htb
      have HA0 := Lib.hid A0
      have HA1 := Lib.hid A1
      have Hta := Lib.hid ta
      have Htb := Lib.hid tb
      clear A0 A1 ta tb
      have hw := Lib.hid (bstep Hhw.out hb7)
      have B0 := HB0.out.below hb7
      have B1 := HB1.out.below hb7
      have B2 := HB2.out.below hb7
      have B3 := HB3.out.below hb7
      have B4 := HB4.out.below hb7
      clear Hhw HB0 HB1 HB2 HB3 HB4 hb7
      have Hhw := hw
      clear hw
      have HB0 := Lib.hid B0
      have HB1 := Lib.hid B1
      have HB2 := Lib.hid B2
      have HB3 := Lib.hid B3
      have HB4 := Lib.hid B4
      clear B0 B1 B2 B3 B4
      have k0 := HB0.out 0 _ rfl
      obtain ⟨u0, u1, u2, u3⟩ := HB1.out.four
      obtain ⟨s0, s1⟩ := HB2.out.two
      obtain ⟨t0, t1⟩ := HB3.out.two
      obtain ⟨q0, q1⟩ := HB4.out.two
      obtain ⟨p0, p1⟩ := HA0.out.two
      obtain ⟨r0, r1⟩ := HA1.out.two
      cases b with
      | true =>
        go_wp2_with fail
        refine (WK _).mono ?_
        rintro e w9 ⟨rfl, hb9⟩
        go_wp2_with fail
        go_ret
        exact ⟨rfl, bstep Hhw.out hb9⟩
      | false =>
        go_wp2_with fail
        refine (fits_row (w := w7) Hz2.out rfl (Hhs.out.below Hhw.out) (Hho.out.below Hhw.out) (terms2 (t := T.into u path s) (s := T.into u path t) Hta.out Htb.out)).mono ?_
        rintro e w8 ⟨⟨b, rfl, hb⟩, hb8⟩
        clear k0 u0 u1 u2 u3 s0 s1 t0 t1 q0 q1 p0 p1 r0 r1
        have A0 := HA0.out.below hb8
        have A1 := HA1.out.below hb8
        have ta := Hta.out.below hb8
        have tb := Htb.out.below hb8
        clear HA0 HA1 Hta Htb
        have HA0 := Lib.hid A0
        have HA1 := Lib.hid A1
        have Hta := Lib.hid ta
        have Htb := Lib.hid tb
        clear A0 A1 ta tb
        have hw := Lib.hid (bstep Hhw.out hb8)
        have B0 := HB0.out.below hb8
        have B1 := HB1.out.below hb8
        have B2 := HB2.out.below hb8
        have B3 := HB3.out.below hb8
        have B4 := HB4.out.below hb8
        clear Hhw HB0 HB1 HB2 HB3 HB4 hb8
        have Hhw := hw
        clear hw
        have HB0 := Lib.hid B0
        have HB1 := Lib.hid B1
        have HB2 := Lib.hid B2
        have HB3 := Lib.hid B3
        have HB4 := Lib.hid B4
        clear B0 B1 B2 B3 B4
        have k0 := HB0.out 0 _ rfl
        obtain ⟨u0, u1, u2, u3⟩ := HB1.out.four
        obtain ⟨s0, s1⟩ := HB2.out.two
        obtain ⟨t0, t1⟩ := HB3.out.two
        obtain ⟨q0, q1⟩ := HB4.out.two
        obtain ⟨p0, p1⟩ := HA0.out.two
        obtain ⟨r0, r1⟩ := HA1.out.two
        cases b with
        | false =>
          clear hb
          go_wp2_with fail
          refine (WK _).mono ?_
          rintro e w9 ⟨rfl, hb9⟩
          go_wp2_with fail
          go_ret
          exact ⟨rfl, bstep Hhw.out hb9⟩
        | true =>
          have hkey : (o.Cmp s t == 3) = true → (o.Cmp (T.into u path s) (T.into u path t) == 3) = true := by
            have hf1 := Od.fit_of Hf.out
            have hf2 := Od.fit_of (hb rfl)
            have G := hf1.1
            have Fs := hf1.2 s (by simp)
            have Ft := hf1.2 t (by simp)
            have Fu := hf1.2 u (by simp)
            have Fa := hf2.2 (T.into u path s) (by simp)
            have Fb := hf2.2 (T.into u path t) (by simp)
            rw [G.Cmp_above Fs Ft, G.Cmp_above Fa Fb]
            exact fun h => Od.kb_into h path u Hwi.out.1 Fu.ok Fa.ok Fb.ok
          have Hkey := Lib.hid hkey
          clear hb hkey
          generalize (o.Cmp s t == 3) = k1 at *
          generalize (o.Cmp (T.into u path s) (T.into u path t) == 3) = k2 at *
          go_wp2_with fail
          refine (KA _ _ _ _ (Hho.out.below Hhw.out) (Hh1.out.below Hhw.out) (Hh2.out.below Hhw.out)).mono ?_
          rintro e w9 ⟨rfl, hb9⟩
          clear k0 u0 u1 u2 u3 s0 s1 t0 t1 q0 q1 p0 p1 r0 r1
          have A0 := HA0.out.below hb9
          have A1 := HA1.out.below hb9
          have ta := Hta.out.below hb9
          have tb := Htb.out.below hb9
          clear HA0 HA1 Hta Htb
          have HA0 := Lib.hid A0
          have HA1 := Lib.hid A1
          have Hta := Lib.hid ta
          have Htb := Lib.hid tb
          clear A0 A1 ta tb
          have hw := Lib.hid (bstep Hhw.out hb9)
          have B0 := HB0.out.below hb9
          have B1 := HB1.out.below hb9
          have B2 := HB2.out.below hb9
          have B3 := HB3.out.below hb9
          have B4 := HB4.out.below hb9
          clear Hhw HB0 HB1 HB2 HB3 HB4 hb9
          have Hhw := hw
          clear hw
          have HB0 := Lib.hid B0
          have HB1 := Lib.hid B1
          have HB2 := Lib.hid B2
          have HB3 := Lib.hid B3
          have HB4 := Lib.hid B4
          clear B0 B1 B2 B3 B4
          have k0 := HB0.out 0 _ rfl
          obtain ⟨u0, u1, u2, u3⟩ := HB1.out.four
          obtain ⟨s0, s1⟩ := HB2.out.two
          obtain ⟨t0, t1⟩ := HB3.out.two
          obtain ⟨q0, q1⟩ := HB4.out.two
          obtain ⟨p0, p1⟩ := HA0.out.two
          obtain ⟨r0, r1⟩ := HA1.out.two
          cases k1 with
          | false =>
            go_wp2_with fail
            refine (WK _).mono ?_
            rintro e w11 ⟨rfl, hb11⟩
            go_wp2_with fail
            go_ret
            exact ⟨rfl, bstep Hhw.out hb11⟩
          | true =>
            obtain rfl : k2 = true := Hkey.out rfl
            go_wp2_with fail
            refine (KB _ _ _ _ (Hho.out.below Hhw.out) Hta.out Htb.out).mono ?_
            rintro e w10 ⟨rfl, hb10⟩
            clear k0 u0 u1 u2 u3 s0 s1 t0 t1 q0 q1 p0 p1 r0 r1
            have hw := Lib.hid (bstep Hhw.out hb10)
            have B0 := HB0.out.below hb10
            have B1 := HB1.out.below hb10
            have B2 := HB2.out.below hb10
            have B3 := HB3.out.below hb10
            have B4 := HB4.out.below hb10
            clear Hhw HB0 HB1 HB2 HB3 HB4 hb10
            have Hhw := hw
            clear hw
            have HB0 := Lib.hid B0
            have HB1 := Lib.hid B1
            have HB2 := Lib.hid B2
            have HB3 := Lib.hid B3
            have HB4 := Lib.hid B4
            clear B0 B1 B2 B3 B4
            go_wp2_with fail
            refine (WK _).mono ?_
            rintro e w11 ⟨rfl, hb11⟩
            go_wp2_with fail
            go_ret
            exact ⟨rfl, bstep Hhw.out hb11⟩

end Go.Proofs.Ytjkpecjlpgcalaa

/- KboWithin: what is above stays above within a term; ground terms are comparable, for every input whose reading is of bulk at most 1048576, the law answers true, panics nowhere, and leaves what it was given as it was. -/
namespace Go.Proofs.Ytjkpecjlpgcalaa
open Go.ChangeShapes Go.WideShapes Go.ChangeAt Go.RowKit

theorem kboWithin_contract (H : Type) (enc : TypeId × Value → H) (W : World) (base : Nat) (args : Array Value) (ds gs : List (DataW H)) (before : List MemPlace)
    (hval : ∀ (j : Nat) t v, Try.f7.params[j]? = some t → args[j]? = some v → Value.okWide Try.prog W .any base t v)
    (hW : DataW.Whole enc Try.prog Try.f7.params.toList Rows.kboWithinSpec.vars false W args.toList ds gs before) (hk : Rows.uptoSmall H (ds ++ gs) = true) :
    Calls Try.prog 7 args W fun e W' => ∃ v, e = .returned v ∧ Rows.kboWithinSpec.post enc Try.prog Try.f7 false true false false W args v W' := by
  have hW' := hW
  obtain ⟨p, q, hA0, hV, rfl, hfz, hnd⟩ := hW
  have hA : DataW.TrodAll enc Try.prog W 0 (fun _ => true) true Try.f7.params.toList args.toList ds p := hA0
  rw [Try.params7] at hA hval
  obtain ⟨v0, vs0, d0, ds0, p0, q0, hargs, rfl, rfl, h0, r0⟩ := trodAll_cons hA
  obtain ⟨v1, vs1, d1, ds1, p1, q1, rfl, rfl, rfl, h1, r1⟩ := trodAll_cons r0
  obtain ⟨v2, vs2, d2, ds2, p2, q2, rfl, rfl, rfl, h2, r2⟩ := trodAll_cons r1
  obtain ⟨v3, vs3, d3, ds3, p3, q3, rfl, rfl, rfl, h3, r3⟩ := trodAll_cons r2
  obtain ⟨v4, vs4, d4, ds4, p4, q4, rfl, rfl, rfl, h4, r4⟩ := trodAll_cons r3
  obtain ⟨v5, vs5, d5, ds5, p5, q5, rfl, rfl, rfl, h5, r5⟩ := trodAll_cons r4
  obtain ⟨rfl, rfl, rfl⟩ := trodAll_nil r5
  obtain rfl : args = #[v0, v1, v2, v3, v4, v5] := by cases args; simp_all
  obtain ⟨x0, y0⟩ := arg_Sig (hval 0 36 v0 rfl rfl) h0
  obtain ⟨x1, y1⟩ := arg_Od (hval 1 24 v1 rfl rfl) h1
  obtain ⟨x2, y2, z2⟩ := arg_T (hval 2 27 v2 rfl rfl) h2
  have b2 := bulk_mem hk (d := d2) (by simp)
  obtain ⟨x3, y3, z3⟩ := arg_T (hval 3 27 v3 rfl rfl) h3
  have b3 := bulk_mem hk (d := d3) (by simp)
  obtain ⟨x4, y4, z4⟩ := arg_T (hval 4 27 v4 rfl rfl) h4
  have b4 := bulk_mem hk (d := d4) (by simp)
  obtain ⟨x5, rfl, y5⟩ := arg_int (hval 5 3 v5 rfl rfl) h5
  refine (within_any x0 x1 x2 x3 x4 x5 W v0 v1 v2 v3 v4  (by omega) (by omega) (by omega) y0 y1 y2 y3 y4 y5).mono fun e W' ⟨he, hg⟩ => ?_
  subst he
  exact ⟨_, rfl, law_post (by kernel_rfl) (readable_all (by kernel_rfl)) Try.underlying4 rfl rfl rfl hW' hg⟩

set_option maxRecDepth 100000 in
theorem kboWithin_lifted (os : Os) (started : os.Started) (H : Type) (enc : TypeId × Value → H) (F : Stop.Interp) :
    ReturnsInHanded {} Try.checked os 7 .any ((Rows.OpenSpec.upto Rows.kboWithinSpec).pre6 enc Try.prog Try.f7 Rows.kboWithinUptoRow.domain false) (((Rows.OpenSpec.upto Rows.kboWithinSpec).at F).post enc Try.prog Try.f7 false true false false) := by
  refine returnsInHanded_of_cond (C := Try.checked) (s := Rows.OpenSpec.upto Rows.kboWithinSpec) (k := Rows.uptoSmall) rfl own started (by kernel_rfl) Try.func7
    (OpenSpec.witness (enc := enc) (C := Try.checked) (s := Rows.OpenSpec.upto Rows.kboWithinSpec) (k := Rows.uptoSmall) rfl false ⟨#[], #[.agg #[.slice none 0 0], .agg #[.bool false, .slice none 0 0, .slice none 0 0, .int .i64 0], .agg #[.int .i64 0, .slice none 0 0], .agg #[.int .i64 0, .slice none 0 0], .agg #[.int .i64 0, .slice none 0 0], .int .i64 0], []⟩ 8 (by kernel_rfl) (by kernel_rfl) (by kernel_rfl)
      (x := ([.agg [.nil], .agg [.lit (.bool false), .nil, .nil, .lit (.int .i64 0)], .agg [.lit (.int .i64 0), .nil], .agg [.lit (.int .i64 0), .nil], .agg [.lit (.int .i64 0), .nil], .lit (.int .i64 0)], [], [])) (by kernel_rfl) rfl (by kernel_rfl)) ?_
  intro W base args ds gs before hval hW _ hk _
  exact kboWithin_contract H enc W base args ds gs before hval hW hk

theorem kboWithin_proved : Rows.KboWithinUptoSaid :=
  OpenClaim.holds_of_cond 7 Try.f7 rfl rfl rfl rfl rfl rfl rfl ⟨rfl, rfl, rfl, rfl, rfl⟩ rfl rfl rfl rfl rfl (by kernel_rfl) Try.func7 (by kernel_rfl)
    (of_decide_eq_true (by kernel_rfl)) (by unfold Func.isWrapper; first | (rw [if_pos (by decide +kernel)]; kernel_rfl) | (rw [if_neg (by decide +kernel)]; exact ⟨rfl, rfl⟩))
    (fun os started H enc _ F => kboWithin_lifted os started H enc F)

end Go.Proofs.Ytjkpecjlpgcalaa
