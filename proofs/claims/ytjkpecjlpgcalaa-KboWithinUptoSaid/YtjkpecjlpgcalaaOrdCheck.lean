/- The walk through the document's check of an order. -/
import Derived.Test.YtjkpecjlpgcalaaFitsPlain
import Derived.Test.YtjkpecjlpgcalaaOps
namespace Go.Proofs.Ytjkpecjlpgcalaa
open Go.RowKit Go.Sort Go

def oc5 (sg : List Sy) (o : Od) (w : World) (a a2 : Option Addr) (c c2 b oo : Nat) : List (Bool × Sp) := [(true, .val (.pointer (some ⟨(w.heap.size + 1), 2, none⟩))), (true, .val (.slice a2 o.weights.length c2)), (true, .val (.int .i64 o.weights.length)), (true, .val (.pointer (some ⟨w.heap.size, 0, none⟩))), (true, .val (.slice a sg.length c)), (true, .val (.int .i64 sg.length)), (true, .val (.bool ((o.weights.length : Int) != (sg.length : Int)))), (true, .val (.bool ((o.weights.length : Int) != (sg.length : Int)))), ((true && !((o.weights.length : Int) != (sg.length : Int))), .val (.pointer (some ⟨(w.heap.size + 1), 3, none⟩))), ((true && !((o.weights.length : Int) != (sg.length : Int))), .val (.int .i64 o.var)), ((true && !((o.weights.length : Int) != (sg.length : Int))), .val (.bool (decide ((o.var : Int) < (1 : Int))))), (true, .val (.bool (((o.weights.length : Int) != (sg.length : Int)) || (decide ((o.var : Int) < (1 : Int)))))), (true, .val (.bool (((o.weights.length : Int) != (sg.length : Int)) || (decide ((o.var : Int) < (1 : Int)))))), ((true && !(((o.weights.length : Int) != (sg.length : Int)) || (decide ((o.var : Int) < (1 : Int))))), .val (.pointer (some ⟨(w.heap.size + 1), 3, none⟩))), ((true && !(((o.weights.length : Int) != (sg.length : Int)) || (decide ((o.var : Int) < (1 : Int))))), .val (.int .i64 o.var)), ((true && !(((o.weights.length : Int) != (sg.length : Int)) || (decide ((o.var : Int) < (1 : Int))))), .val (.bool (decide ((1000 : Int) < (o.var : Int))))), (true, .val (.bool ((((o.weights.length : Int) != (sg.length : Int)) || (decide ((o.var : Int) < (1 : Int)))) || (decide ((1000 : Int) < (o.var : Int)))))), (true, .val (.bool ((((o.weights.length : Int) != (sg.length : Int)) || (decide ((o.var : Int) < (1 : Int)))) || (decide ((1000 : Int) < (o.var : Int)))))), ((true && !((((o.weights.length : Int) != (sg.length : Int)) || (decide ((o.var : Int) < (1 : Int)))) || (decide ((1000 : Int) < (o.var : Int))))), .val (.pointer (some ⟨(w.heap.size + 1), 2, none⟩))), ((true && !((((o.weights.length : Int) != (sg.length : Int)) || (decide ((o.var : Int) < (1 : Int)))) || (decide ((1000 : Int) < (o.var : Int))))), .val (.slice a2 o.weights.length c2)), ((true && !((((o.weights.length : Int) != (sg.length : Int)) || (decide ((o.var : Int) < (1 : Int)))) || (decide ((1000 : Int) < (o.var : Int))))), .val (.pointer (some ⟨b, oo, none⟩))), ((true && !((((o.weights.length : Int) != (sg.length : Int)) || (decide ((o.var : Int) < (1 : Int)))) || (decide ((1000 : Int) < (o.var : Int))))), .val (.int .i64 (o.weights.getD 0 0))), ((true && !((((o.weights.length : Int) != (sg.length : Int)) || (decide ((o.var : Int) < (1 : Int)))) || (decide ((1000 : Int) < (o.var : Int))))), .val (.pointer (some ⟨(w.heap.size + 1), 3, none⟩))), ((true && !((((o.weights.length : Int) != (sg.length : Int)) || (decide ((o.var : Int) < (1 : Int)))) || (decide ((1000 : Int) < (o.var : Int))))), .val (.int .i64 o.var)), ((true && !((((o.weights.length : Int) != (sg.length : Int)) || (decide ((o.var : Int) < (1 : Int)))) || (decide ((1000 : Int) < (o.var : Int))))), .val (.bool (((o.weights.getD 0 0) : Int) != (o.var : Int)))), (true, .val (.bool (((((o.weights.length : Int) != (sg.length : Int)) || (decide ((o.var : Int) < (1 : Int)))) || (decide ((1000 : Int) < (o.var : Int)))) || (((o.weights.getD 0 0) : Int) != (o.var : Int)))))]

set_option maxRecDepth 100000 in
set_option maxHeartbeats 4000000 in
theorem ordCheck_any (sg : List Sy) (o : Od) (w : World) (vs vo : Value) (hs : IsSig w sg vs) (ho : IsOd w o vo) :
    Calls Try.prog 31 #[vs, vo] w fun e w' => (∃ n : Int, e = .returned (.int .i64 n) ∧ (n = 0 → OrdOk sg o)) ∧ Below w.heap.size w w' := by
  have hs0 := hs
  have ho0 := ho
  obtain ⟨a, c, rfl, hc, hm, hsl⟩ := hs
  obtain ⟨a1, a2, c1, c2, rfl, n1, n2, n3, n4, p1, p2, hv1, hv2⟩ := ho
  have SC := fun w v => sigCheck_any sg w v
  have RK := fun w h => ranks_any o.prec sg.length w a1 c1 n1 n2 h
  have HG := fun w i hi h => highest_any o.prec i w a1 c1 hi n1 n2 h
  have m2 := Lib.hid n2
  unfold maxLen at hm n2 n4
  by_cases h1 : sigCheck sg = 0
  · have h1' := Lib.hid h1
    have hpos := sigCheck_pos h1
    rw [h1] at SC
    have Hhs0 := Lib.hid hs0
    have Hho0 := Lib.hid ho0
    clear hs0 ho0
    clear h1
    go_enter Try.func31, Try.ntmps31
    go_wp2_with fail
    refine (SC _ _ (Hhs0.out.below (balloc2 _ _ _))).mono ?_
    rintro e w1 ⟨rfl, hb1⟩
    obtain ⟨B1, B2, hw1⟩ := box2 hb1
    have k0 := B1 0 _ rfl
    obtain ⟨u0, u1, u2, u3⟩ := B2.four
    have Hhw1 := Lib.hid hw1
    have HB1 := Lib.hid B1
    have HB2 := Lib.hid B2
    clear hw1 B1 B2
    clear hb1
    go_wp2_with fail
    refine (RK _ (p1.below Hhw1.out)).mono ?_
    rintro e w2 ⟨⟨b, rfl, hb⟩, hb2⟩
    have hb := Lib.hid hb
    have hw2 := bstep Hhw1.out hb2
    have B1 := HB1.out.below hb2
    have B2 := HB2.out.below hb2
    clear k0 u0 u1 u2 u3 hb2 Hhw1 HB1 HB2 RK SC
    have k0 := B1 0 _ rfl
    obtain ⟨u0, u1, u2, u3⟩ := B2.four
    have Hhw2 := Lib.hid hw2
    have HB1 := Lib.hid B1
    have HB2 := Lib.hid B2
    clear hw2 B1 B2
    cases b with
    | false =>
      go_wp2_with fail
      go_ret
      exact ⟨⟨2, rfl, fun h => by omega⟩, Hhw2.out⟩
    | true =>
      obtain ⟨hlen0, hrk0⟩ := hb.out rfl
      have hlen := Lib.hid (show o.prec.length = sg.length by omega)
      have hrk := Lib.hid hrk0
      clear hlen0 hrk0
      cases hlpo : o.lpo with
      | true =>
        have HV := Lib.hid (show OrdOk sg o from ⟨h1'.out, hlen.out, hrk.out, fun h => by rw [hlpo] at h; cases h⟩)
        rw [hlpo] at u0
        clear hlpo hb
        go_wp2_with fail
        go_ret
        exact ⟨⟨0, rfl, fun _ => HV.out⟩, Hhw2.out⟩
      | false =>
        rw [hlpo] at u0
        have hlpo := Lib.hid hlpo
        clear hb
        obtain ⟨b, oo, HA⟩ : ∃ b oo, 0 < o.weights.length → a2 = some ⟨b, oo, none⟩ ∧ w2.cell? ⟨b, oo, none⟩ = some (.int .i64 (o.weights.getD 0 0)) := by
          by_cases hp0 : 0 < o.weights.length
          · obtain ⟨b, oo, e1, g0, _⟩ := p2.at_ Hhw2.out 0 hp0
            refine ⟨b, oo, fun _ => ⟨e1, ?_⟩⟩
            simpa [hp0] using g0
          · exact ⟨0, 0, fun h => absurd h hp0⟩
        have Hhpos := Lib.hid hpos
        have HHA := Lib.hid HA
        have Hk0 := Lib.hid k0
        have Hu1 := Lib.hid u1
        have Hu2 := Lib.hid u2
        have Hu3 := Lib.hid u3
        clear hpos HA k0 u1 u2 u3
        have HA := HHA
        clear HHA
        go_wp2_with (with_reducible refine stop_region ?_)
        refine Stop.mk ?_
        refine wp_region_lit (optR (oc5 sg o w a a2 c c2 b oo)) [false, false, false, false, false, false, false, false, false, false, false, false, false, false, false, false, false, false, false, false, false, true, true, true, true, true, true, true, true, true, true, true, true, true, true, true, true, true, true, true, true, true, true, true, true, true, true, false, false, false, false, false, false, false, false, false, false, false, false, false, false, false, false, false, false, false, false, false, false, false, false, false, false, false, false, false, false, false, false, false, false, false, false, false, false, false, false, false, false, false, false, false, false, false, false, false, false, false] (by kernel_rfl) (by kernel_rfl) (by kernel_rfl) (optKeep _) ?_ ?_
        · refine ⟨⟨true, .none rfl, fun h w => optUndef h, fun hβ fx wx hwx hn hd => ?_⟩, ?_⟩
          · exact wp_fld_apiOrder_2 rfl ((rel_eval (by kernel_rfl)).trans (show fx 3 = .pointer (some ⟨(w.heap.size + 1), 0, none⟩) from hn 3 (by kernel_rfl))) ⟨_, rfl, Below.refl _ _, optDef hβ rfl⟩
          refine ⟨⟨true, .none rfl, fun h w => optUndef h, fun hβ fx wx hwx hn hd => ?_⟩, ?_⟩
          · exact wp_ld_Lint rfl ((rel_eval (by kernel_rfl)).trans (optVal (x := .pointer (some ⟨(w.heap.size + 1), 2, none⟩)) (β := true) (hd 0 21 (by kernel_rfl)) rfl rfl)) (bkeeps hwx _ _ (Hu2.out)) ⟨_, rfl, Below.refl _ _, optDef hβ rfl⟩
          refine ⟨⟨true, .none rfl, fun h w => optUndef h, fun hβ fx wx hwx hn hd => ?_⟩, ?_⟩
          · exact wp_len_Lint rfl ((rel_eval (by kernel_rfl)).trans (optVal (x := .slice a2 o.weights.length c2) (β := true) (hd 1 22 (by kernel_rfl)) rfl rfl)) ⟨_, rfl, Below.refl _ _, optDef hβ rfl⟩
          refine ⟨⟨true, .none rfl, fun h w => optUndef h, fun hβ fx wx hwx hn hd => ?_⟩, ?_⟩
          · exact wp_fld_apiSig_0 rfl ((rel_eval (by kernel_rfl)).trans (show fx 2 = .pointer (some ⟨w.heap.size, 0, none⟩) from hn 2 (by kernel_rfl))) ⟨_, rfl, Below.refl _ _, optDef hβ rfl⟩
          refine ⟨⟨true, .none rfl, fun h w => optUndef h, fun hβ fx wx hwx hn hd => ?_⟩, ?_⟩
          · exact wp_ld_LapiSym rfl ((rel_eval (by kernel_rfl)).trans (optVal (x := .pointer (some ⟨w.heap.size, 0, none⟩)) (β := true) (hd 3 24 (by kernel_rfl)) rfl rfl)) (bkeeps hwx _ _ (Hk0.out)) ⟨_, rfl, Below.refl _ _, optDef hβ rfl⟩
          refine ⟨⟨true, .none rfl, fun h w => optUndef h, fun hβ fx wx hwx hn hd => ?_⟩, ?_⟩
          · exact wp_len_LapiSym rfl ((rel_eval (by kernel_rfl)).trans (optVal (x := .slice a sg.length c) (β := true) (hd 4 25 (by kernel_rfl)) rfl rfl)) ⟨_, rfl, Below.refl _ _, optDef hβ rfl⟩
          refine ⟨⟨true, .none rfl, fun h w => optUndef h, fun hβ fx wx hwx hn hd => ?_⟩, ?_⟩
          · exact wp_ne_int rfl ((rel_eval (by kernel_rfl)).trans (optVal (x := .int .i64 o.weights.length) (β := true) (hd 2 23 (by kernel_rfl)) rfl rfl)) ((rel_eval (by kernel_rfl)).trans (optVal (x := .int .i64 sg.length) (β := true) (hd 5 26 (by kernel_rfl)) rfl rfl)) ⟨_, rfl, Below.refl _ _, optDef hβ rfl⟩
          refine ⟨⟨true, .none rfl, fun h w => optUndef h, fun hβ fx wx hwx hn hd => ?_⟩, ?_⟩
          · exact wp_move rfl ((rel_eval (by kernel_rfl)).trans (optVal (x := .bool ((o.weights.length : Int) != (sg.length : Int))) (β := true) (hd 6 27 (by kernel_rfl)) rfl rfl)) ⟨_, rfl, Below.refl _ _, optDef hβ rfl⟩
          refine ⟨⟨(true && !((o.weights.length : Int) != (sg.length : Int))), .no (c := ((o.weights.length : Int) != (sg.length : Int))) (d := true) rfl (fun v w h => h), fun h w => optUndef h, fun hβ fx wx hwx hn hd => ?_⟩, ?_⟩
          · exact wp_fld_apiOrder_3 rfl ((rel_eval (by kernel_rfl)).trans (show fx 3 = .pointer (some ⟨(w.heap.size + 1), 0, none⟩) from hn 3 (by kernel_rfl))) ⟨_, rfl, Below.refl _ _, optDef hβ rfl⟩
          refine ⟨⟨(true && !((o.weights.length : Int) != (sg.length : Int))), .no (c := ((o.weights.length : Int) != (sg.length : Int))) (d := true) rfl (fun v w h => h), fun h w => optUndef h, fun hβ fx wx hwx hn hd => ?_⟩, ?_⟩
          · exact wp_ld_int rfl ((rel_eval (by kernel_rfl)).trans (optVal (x := .pointer (some ⟨(w.heap.size + 1), 3, none⟩)) (β := (true && !((o.weights.length : Int) != (sg.length : Int)))) (hd 8 29 (by kernel_rfl)) rfl hβ)) (bkeeps hwx _ _ (Hu3.out)) ⟨_, rfl, Below.refl _ _, optDef hβ rfl⟩
          refine ⟨⟨(true && !((o.weights.length : Int) != (sg.length : Int))), .no (c := ((o.weights.length : Int) != (sg.length : Int))) (d := true) rfl (fun v w h => h), fun h w => optUndef h, fun hβ fx wx hwx hn hd => ?_⟩, ?_⟩
          · exact wp_lt_int rfl ((rel_eval (by kernel_rfl)).trans (optVal (x := .int .i64 o.var) (β := (true && !((o.weights.length : Int) != (sg.length : Int)))) (hd 9 30 (by kernel_rfl)) rfl hβ)) rfl ⟨_, rfl, Below.refl _ _, optDef hβ rfl⟩
          refine ⟨⟨true, .none rfl, fun h w => optUndef h, fun hβ fx wx hwx hn hd => ?_⟩, ?_⟩
          · exact wp_or rfl ((rel_eval (by kernel_rfl)).trans (optVal (x := .bool ((o.weights.length : Int) != (sg.length : Int))) (β := true) (hd 7 28 (by kernel_rfl)) rfl rfl)) (fun hp => ((rel_eval (by kernel_rfl)).trans (optVal (x := .bool (decide ((o.var : Int) < (1 : Int)))) (β := (true && !((o.weights.length : Int) != (sg.length : Int)))) (hd 10 31 (by kernel_rfl)) rfl (bMkN hβ hp)))) ⟨_, rfl, Below.refl _ _, optDef hβ rfl⟩
          refine ⟨⟨true, .none rfl, fun h w => optUndef h, fun hβ fx wx hwx hn hd => ?_⟩, ?_⟩
          · exact wp_move rfl ((rel_eval (by kernel_rfl)).trans (optVal (x := .bool (((o.weights.length : Int) != (sg.length : Int)) || (decide ((o.var : Int) < (1 : Int))))) (β := true) (hd 11 32 (by kernel_rfl)) rfl rfl)) ⟨_, rfl, Below.refl _ _, optDef hβ rfl⟩
          refine ⟨⟨(true && !(((o.weights.length : Int) != (sg.length : Int)) || (decide ((o.var : Int) < (1 : Int))))), .no (c := (((o.weights.length : Int) != (sg.length : Int)) || (decide ((o.var : Int) < (1 : Int))))) (d := true) rfl (fun v w h => h), fun h w => optUndef h, fun hβ fx wx hwx hn hd => ?_⟩, ?_⟩
          · exact wp_fld_apiOrder_3 rfl ((rel_eval (by kernel_rfl)).trans (show fx 3 = .pointer (some ⟨(w.heap.size + 1), 0, none⟩) from hn 3 (by kernel_rfl))) ⟨_, rfl, Below.refl _ _, optDef hβ rfl⟩
          refine ⟨⟨(true && !(((o.weights.length : Int) != (sg.length : Int)) || (decide ((o.var : Int) < (1 : Int))))), .no (c := (((o.weights.length : Int) != (sg.length : Int)) || (decide ((o.var : Int) < (1 : Int))))) (d := true) rfl (fun v w h => h), fun h w => optUndef h, fun hβ fx wx hwx hn hd => ?_⟩, ?_⟩
          · exact wp_ld_int rfl ((rel_eval (by kernel_rfl)).trans (optVal (x := .pointer (some ⟨(w.heap.size + 1), 3, none⟩)) (β := (true && !(((o.weights.length : Int) != (sg.length : Int)) || (decide ((o.var : Int) < (1 : Int)))))) (hd 13 34 (by kernel_rfl)) rfl hβ)) (bkeeps hwx _ _ (Hu3.out)) ⟨_, rfl, Below.refl _ _, optDef hβ rfl⟩
          refine ⟨⟨(true && !(((o.weights.length : Int) != (sg.length : Int)) || (decide ((o.var : Int) < (1 : Int))))), .no (c := (((o.weights.length : Int) != (sg.length : Int)) || (decide ((o.var : Int) < (1 : Int))))) (d := true) rfl (fun v w h => h), fun h w => optUndef h, fun hβ fx wx hwx hn hd => ?_⟩, ?_⟩
          · exact wp_gt_int rfl ((rel_eval (by kernel_rfl)).trans (optVal (x := .int .i64 o.var) (β := (true && !(((o.weights.length : Int) != (sg.length : Int)) || (decide ((o.var : Int) < (1 : Int)))))) (hd 14 35 (by kernel_rfl)) rfl hβ)) rfl ⟨_, rfl, Below.refl _ _, optDef hβ rfl⟩
          refine ⟨⟨true, .none rfl, fun h w => optUndef h, fun hβ fx wx hwx hn hd => ?_⟩, ?_⟩
          · exact wp_or rfl ((rel_eval (by kernel_rfl)).trans (optVal (x := .bool (((o.weights.length : Int) != (sg.length : Int)) || (decide ((o.var : Int) < (1 : Int))))) (β := true) (hd 12 33 (by kernel_rfl)) rfl rfl)) (fun hp => ((rel_eval (by kernel_rfl)).trans (optVal (x := .bool (decide ((1000 : Int) < (o.var : Int)))) (β := (true && !(((o.weights.length : Int) != (sg.length : Int)) || (decide ((o.var : Int) < (1 : Int)))))) (hd 15 36 (by kernel_rfl)) rfl (bMkN hβ hp)))) ⟨_, rfl, Below.refl _ _, optDef hβ rfl⟩
          refine ⟨⟨true, .none rfl, fun h w => optUndef h, fun hβ fx wx hwx hn hd => ?_⟩, ?_⟩
          · exact wp_move rfl ((rel_eval (by kernel_rfl)).trans (optVal (x := .bool ((((o.weights.length : Int) != (sg.length : Int)) || (decide ((o.var : Int) < (1 : Int)))) || (decide ((1000 : Int) < (o.var : Int))))) (β := true) (hd 16 37 (by kernel_rfl)) rfl rfl)) ⟨_, rfl, Below.refl _ _, optDef hβ rfl⟩
          refine ⟨⟨(true && !((((o.weights.length : Int) != (sg.length : Int)) || (decide ((o.var : Int) < (1 : Int)))) || (decide ((1000 : Int) < (o.var : Int))))), .no (c := ((((o.weights.length : Int) != (sg.length : Int)) || (decide ((o.var : Int) < (1 : Int)))) || (decide ((1000 : Int) < (o.var : Int))))) (d := true) rfl (fun v w h => h), fun h w => optUndef h, fun hβ fx wx hwx hn hd => ?_⟩, ?_⟩
          · exact wp_fld_apiOrder_2 rfl ((rel_eval (by kernel_rfl)).trans (show fx 3 = .pointer (some ⟨(w.heap.size + 1), 0, none⟩) from hn 3 (by kernel_rfl))) ⟨_, rfl, Below.refl _ _, optDef hβ rfl⟩
          refine ⟨⟨(true && !((((o.weights.length : Int) != (sg.length : Int)) || (decide ((o.var : Int) < (1 : Int)))) || (decide ((1000 : Int) < (o.var : Int))))), .no (c := ((((o.weights.length : Int) != (sg.length : Int)) || (decide ((o.var : Int) < (1 : Int)))) || (decide ((1000 : Int) < (o.var : Int))))) (d := true) rfl (fun v w h => h), fun h w => optUndef h, fun hβ fx wx hwx hn hd => ?_⟩, ?_⟩
          · exact wp_ld_Lint rfl ((rel_eval (by kernel_rfl)).trans (optVal (x := .pointer (some ⟨(w.heap.size + 1), 2, none⟩)) (β := (true && !((((o.weights.length : Int) != (sg.length : Int)) || (decide ((o.var : Int) < (1 : Int)))) || (decide ((1000 : Int) < (o.var : Int)))))) (hd 18 39 (by kernel_rfl)) rfl hβ)) (bkeeps hwx _ _ (Hu2.out)) ⟨_, rfl, Below.refl _ _, optDef hβ rfl⟩
          refine ⟨⟨(true && !((((o.weights.length : Int) != (sg.length : Int)) || (decide ((o.var : Int) < (1 : Int)))) || (decide ((1000 : Int) < (o.var : Int))))), .no (c := ((((o.weights.length : Int) != (sg.length : Int)) || (decide ((o.var : Int) < (1 : Int)))) || (decide ((1000 : Int) < (o.var : Int))))) (d := true) rfl (fun v w h => h), fun h w => optUndef h, fun hβ fx wx hwx hn hd => ?_⟩, ?_⟩
          · exact wp_ix0_Lint rfl (((rel_eval (by kernel_rfl)).trans (optVal (x := .slice a2 o.weights.length c2) (β := (true && !((((o.weights.length : Int) != (sg.length : Int)) || (decide ((o.var : Int) < (1 : Int)))) || (decide ((1000 : Int) < (o.var : Int)))))) (hd 19 40 (by kernel_rfl)) rfl hβ)).trans (congrArg (fun z => Value.slice z o.weights.length c2) (HA.out (by have h := hβ; simp at h; have := Hhpos.out; omega)).1)) rfl (by have h := hβ; simp at h; have := Hhpos.out; omega) ⟨_, rfl, Below.refl _ _, optDef hβ rfl⟩
          refine ⟨⟨(true && !((((o.weights.length : Int) != (sg.length : Int)) || (decide ((o.var : Int) < (1 : Int)))) || (decide ((1000 : Int) < (o.var : Int))))), .no (c := ((((o.weights.length : Int) != (sg.length : Int)) || (decide ((o.var : Int) < (1 : Int)))) || (decide ((1000 : Int) < (o.var : Int))))) (d := true) rfl (fun v w h => h), fun h w => optUndef h, fun hβ fx wx hwx hn hd => ?_⟩, ?_⟩
          · exact wp_ld_int rfl ((rel_eval (by kernel_rfl)).trans (optVal (x := .pointer (some ⟨b, oo, none⟩)) (β := (true && !((((o.weights.length : Int) != (sg.length : Int)) || (decide ((o.var : Int) < (1 : Int)))) || (decide ((1000 : Int) < (o.var : Int)))))) (hd 20 41 (by kernel_rfl)) rfl hβ)) (bkeeps hwx _ _ ((HA.out (by have h := hβ; simp at h; have := Hhpos.out; omega)).2)) ⟨_, rfl, Below.refl _ _, optDef hβ rfl⟩
          refine ⟨⟨(true && !((((o.weights.length : Int) != (sg.length : Int)) || (decide ((o.var : Int) < (1 : Int)))) || (decide ((1000 : Int) < (o.var : Int))))), .no (c := ((((o.weights.length : Int) != (sg.length : Int)) || (decide ((o.var : Int) < (1 : Int)))) || (decide ((1000 : Int) < (o.var : Int))))) (d := true) rfl (fun v w h => h), fun h w => optUndef h, fun hβ fx wx hwx hn hd => ?_⟩, ?_⟩
          · exact wp_fld_apiOrder_3 rfl ((rel_eval (by kernel_rfl)).trans (show fx 3 = .pointer (some ⟨(w.heap.size + 1), 0, none⟩) from hn 3 (by kernel_rfl))) ⟨_, rfl, Below.refl _ _, optDef hβ rfl⟩
          refine ⟨⟨(true && !((((o.weights.length : Int) != (sg.length : Int)) || (decide ((o.var : Int) < (1 : Int)))) || (decide ((1000 : Int) < (o.var : Int))))), .no (c := ((((o.weights.length : Int) != (sg.length : Int)) || (decide ((o.var : Int) < (1 : Int)))) || (decide ((1000 : Int) < (o.var : Int))))) (d := true) rfl (fun v w h => h), fun h w => optUndef h, fun hβ fx wx hwx hn hd => ?_⟩, ?_⟩
          · exact wp_ld_int rfl ((rel_eval (by kernel_rfl)).trans (optVal (x := .pointer (some ⟨(w.heap.size + 1), 3, none⟩)) (β := (true && !((((o.weights.length : Int) != (sg.length : Int)) || (decide ((o.var : Int) < (1 : Int)))) || (decide ((1000 : Int) < (o.var : Int)))))) (hd 22 43 (by kernel_rfl)) rfl hβ)) (bkeeps hwx _ _ (Hu3.out)) ⟨_, rfl, Below.refl _ _, optDef hβ rfl⟩
          refine ⟨⟨(true && !((((o.weights.length : Int) != (sg.length : Int)) || (decide ((o.var : Int) < (1 : Int)))) || (decide ((1000 : Int) < (o.var : Int))))), .no (c := ((((o.weights.length : Int) != (sg.length : Int)) || (decide ((o.var : Int) < (1 : Int)))) || (decide ((1000 : Int) < (o.var : Int))))) (d := true) rfl (fun v w h => h), fun h w => optUndef h, fun hβ fx wx hwx hn hd => ?_⟩, ?_⟩
          · exact wp_ne_int rfl ((rel_eval (by kernel_rfl)).trans (optVal (x := .int .i64 (o.weights.getD 0 0)) (β := (true && !((((o.weights.length : Int) != (sg.length : Int)) || (decide ((o.var : Int) < (1 : Int)))) || (decide ((1000 : Int) < (o.var : Int)))))) (hd 21 42 (by kernel_rfl)) rfl hβ)) ((rel_eval (by kernel_rfl)).trans (optVal (x := .int .i64 o.var) (β := (true && !((((o.weights.length : Int) != (sg.length : Int)) || (decide ((o.var : Int) < (1 : Int)))) || (decide ((1000 : Int) < (o.var : Int)))))) (hd 23 44 (by kernel_rfl)) rfl hβ)) ⟨_, rfl, Below.refl _ _, optDef hβ rfl⟩
          refine ⟨⟨true, .none rfl, fun h w => optUndef h, fun hβ fx wx hwx hn hd => ?_⟩, ?_⟩
          · exact wp_or rfl ((rel_eval (by kernel_rfl)).trans (optVal (x := .bool ((((o.weights.length : Int) != (sg.length : Int)) || (decide ((o.var : Int) < (1 : Int)))) || (decide ((1000 : Int) < (o.var : Int))))) (β := true) (hd 17 38 (by kernel_rfl)) rfl rfl)) (fun hp => ((rel_eval (by kernel_rfl)).trans (optVal (x := .bool (((o.weights.getD 0 0) : Int) != (o.var : Int))) (β := (true && !((((o.weights.length : Int) != (sg.length : Int)) || (decide ((o.var : Int) < (1 : Int)))) || (decide ((1000 : Int) < (o.var : Int)))))) (hd 24 45 (by kernel_rfl)) rfl (bMkN hβ hp)))) ⟨_, rfl, Below.refl _ _, optDef hβ rfl⟩
          exact trivial
        intro ux w3 hb3 hu
        have eu := optVal (x := .bool (((((o.weights.length : Int) != (sg.length : Int)) || (decide ((o.var : Int) < (1 : Int)))) || (decide ((1000 : Int) < (o.var : Int)))) || (((o.weights.getD 0 0) : Int) != (o.var : Int)))) (β := true) (hu 25 46 (by kernel_rfl)) rfl rfl
        simp only [finM]
        rw [eu]
        clear hu eu
        generalize hE : (_ || _) = e
        cases e with
        | true =>
          go_wp2_with fail
          go_ret
          exact ⟨⟨2, rfl, fun h => by omega⟩, bstep Hhw2.out hb3⟩
        | false =>
          have hF := Lib.hid (show o.weights.length = sg.length ∧ 1 ≤ o.var ∧ o.var ≤ 1000 ∧ o.weights.getD 0 0 = o.var by
            simp only [Bool.or_eq_false_iff, bne_eq_false_iff_eq, decide_eq_false_iff_not] at hE
            obtain ⟨⟨⟨q1, q2⟩, q3⟩, q4⟩ := hE
            exact ⟨by omega, by omega, by omega, q4⟩)
          have hw3 := bstep Hhw2.out hb3
          have C1 := HB1.out.below hb3
          have C2 := HB2.out.below hb3
          clear hE HA Hk0 Hu1 Hu2 Hu3 u0 hb3 Hhw2 HB1 HB2
          have k0 := C1 0 _ rfl
          have Hhw3 := Lib.hid hw3
          have HC1 := Lib.hid C1
          have HC2 := Lib.hid C2
          clear hw3 C1 C2
          go_wp2_with fail
          go_loopw [5, 6] (fun i _ wr => ∃ (k : Nat), k ≤ sg.length ∧ i = .int .i64 k ∧ Hid (∀ i (h : i < sg.length), i < k → SymOk o sg[i] i) ∧ Below w.heap.size w wr ∧ Box wr w.heap.size [.slice a sg.length c] ∧ Box wr (w.heap.size + 1) [.bool o.lpo, .slice a1 o.prec.length c1, .slice a2 o.weights.length c2, .int .i64 o.var]) (fun i _ _ => sg.length - (intOf i).toNat)
          case atStart => exact ⟨0, Nat.zero_le _, rfl, fun j _ hj => absurd hj (by omega), Hhw3.out, HC1.out, HC2.out⟩
          case round =>
            clear k0 HC1 HC2 Hhw3
            obtain ⟨k, hk, rfl, hall, hw, hB1, hB2⟩ := hrel
            have k0 := hB1 0 _ rfl
            obtain ⟨u0, u1, u2, u3⟩ := hB2.four
            by_cases hlt : k < sg.length
            · have hltw : k < o.weights.length := by have := hF.out.1; omega
              have hltp : k < o.prec.length := by have := hlen.out; omega
              obtain ⟨b1, o1, rfl, g0, g1, g2, hI1, hI2⟩ := hsl.at_ hw k hlt
              obtain ⟨b2, o2, rfl, g3, hI3⟩ := p2.at_ hw k hltw
              obtain ⟨r, hr⟩ : ∃ r, r = sg[k].ar := ⟨_, rfl⟩
              obtain ⟨m, hm'⟩ : ∃ m, m = o.weights[k] := ⟨_, rfl⟩
              rw [← hr] at g1
              rw [← hm'] at g3
              have z0 : (0 : Int) ≤ (k : Int) := by omega
              have z1 : (k : Int) < (o.weights.length : Int) := by omega
              have Hlt := Lib.hid hlt
              have hG := HG wr k hltp (p1.below hw)
              have z2 : (k : Int) < (sg.length : Int) := by omega
              clear hltp g0 g2 hI1 hI2 hI3 HG
              have Hhall := Lib.hid hall
              have Hhw := Lib.hid hw
              have HhB1 := Lib.hid hB1
              have HhB2 := Lib.hid hB2
              have Hhr := Lib.hid hr
              have Hhm' := Lib.hid hm'
              clear hall hw hB1 hB2 hr hm'
              by_cases q1 : m < 0
              · clear hG
                go_wp2_with fail
                go_ret
                exact ⟨⟨2, rfl, fun h => by omega⟩, Hhw.out⟩
              by_cases q2 : 1000 < m
              · clear hG
                go_wp2_with fail
                go_ret
                exact ⟨⟨2, rfl, fun h => by omega⟩, Hhw.out⟩
              have Hq := Lib.hid (And.intro q1 q2)
              by_cases q3 : r = 0
              · have q4 : (r == 0) = true := by simp [q3]
                have q5 : (r == 1) = false := by simp [q3]
                by_cases q6 : m < o.var
                · clear hG q3
                  go_wp2_with fail
                  go_ret
                  exact ⟨⟨2, rfl, fun h => by omega⟩, Hhw.out⟩
                · have HV := Lib.hid (show (0 ≤ m ∧ m ≤ 1000) ∧ (r = 0 → o.var ≤ m) ∧ (r = 1 → m = 0 → high o.prec k = true) from ⟨by omega, fun _ => by omega, fun h => by omega⟩)
                  clear hG q3
                  go_wp2_with fail
                  go_roundw
                  case rel =>
                    refine ⟨k + 1, by have := Hlt.out; omega, by go_num, fun j hj hjk => ?_, Hhw.out, HhB1.out, HhB2.out⟩
                    by_cases hjk' : j = k
                    · subst hjk'
                      have e1 : o.weights.getD j 0 = m := by
                        have : j < o.weights.length := by have := hF.out.1; omega
                        rw [Hhm'.out]; simp [this]
                      have q := HV.out
                      rw [Hhr.out] at q
                      refine ⟨by rw [e1]; exact q.1, fun h => by rw [e1]; exact q.2.1 h, fun h1 h2 => ?_⟩
                      rw [e1] at h2
                      exact of_decide_eq_true (q.2.2 h1 h2)
                    · exact Hhall.out j hj (by omega)
                  case measure => simp [intOf]; have := Hlt.out; omega
              · have q4 : (r == 0) = false := by simpa using q3
                by_cases q5 : r = 1
                · have q6 : (r == 1) = true := by simp [q5]
                  by_cases q7 : m = 0
                  · have q8 : (m == 0) = true := by simp [q7]
                    have Hq5 := Lib.hid q5
                    have Hq7 := Lib.hid q7
                    clear q3 q5 q7
                    go_wp2_with fail
                    refine hG.mono ?_
                    rintro e w4 ⟨rfl, hb4⟩
                    clear hG
                    cases hhi : high o.prec k with
                    | false =>
                      go_wp2_with fail
                      go_ret
                      exact ⟨⟨2, rfl, fun h => by omega⟩, bstep Hhw.out hb4⟩
                    | true =>
                      have HV := Lib.hid (show (0 ≤ m ∧ m ≤ 1000) ∧ (r = 0 → o.var ≤ m) ∧ (r = 1 → m = 0 → high o.prec k = true) from ⟨by have := Hq.out; omega, fun h => by have := Hq5.out; omega, fun _ _ => hhi⟩)
                      have hw := Lib.hid (bstep Hhw.out hb4)
                      have hB1 := Lib.hid (HhB1.out.below hb4)
                      have hB2 := Lib.hid (HhB2.out.below hb4)
                      clear Hhw HhB1 HhB2 hhi
                      have Hhw := hw
                      have HhB1 := hB1
                      have HhB2 := hB2
                      go_wp2_with fail
                      go_roundw
                      case measure => simp [intOf]; have := Hlt.out; omega
                      case rel =>
                        repeat (apply Exists.intro)
                        refine ⟨?rel2, ?frame⟩
                        case frame => exact rfl
                        case rel2 =>
                          refine ⟨k + 1, by have := Hlt.out; omega, by go_num, fun j hj hjk => ?_, Hhw.out, HhB1.out, HhB2.out⟩
                          by_cases hjk' : j = k
                          · subst hjk'
                            have e1 : o.weights.getD j 0 = m := by
                              have : j < o.weights.length := by have := hF.out.1; omega
                              rw [Hhm'.out]; simp [this]
                            have q := HV.out
                            rw [Hhr.out] at q
                            refine ⟨by rw [e1]; exact q.1, fun h => by rw [e1]; exact q.2.1 h, fun h1 h2 => ?_⟩
                            rw [e1] at h2
                            exact of_decide_eq_true (q.2.2 h1 h2)
                          · exact Hhall.out j hj (by omega)
                  · have q8 : (m == 0) = false := by simpa using q7
                    have HV := Lib.hid (show (0 ≤ m ∧ m ≤ 1000) ∧ (r = 0 → o.var ≤ m) ∧ (r = 1 → m = 0 → high o.prec k = true) from ⟨by omega, fun h => by omega, fun _ h => absurd h q7⟩)
                    clear hG q3 q5 q7
                    go_wp2_with fail
                    go_roundw
                    case rel =>
                      refine ⟨k + 1, by have := Hlt.out; omega, by go_num, fun j hj hjk => ?_, Hhw.out, HhB1.out, HhB2.out⟩
                      by_cases hjk' : j = k
                      · subst hjk'
                        have e1 : o.weights.getD j 0 = m := by
                          have : j < o.weights.length := by have := hF.out.1; omega
                          rw [Hhm'.out]; simp [this]
                        have q := HV.out
                        rw [Hhr.out] at q
                        refine ⟨by rw [e1]; exact q.1, fun h => by rw [e1]; exact q.2.1 h, fun h1 h2 => ?_⟩
                        rw [e1] at h2
                        exact of_decide_eq_true (q.2.2 h1 h2)
                      · exact Hhall.out j hj (by omega)
                    case measure => simp [intOf]; have := Hlt.out; omega
                · have q6 : (r == 1) = false := by simpa using q5
                  have HV := Lib.hid (show (0 ≤ m ∧ m ≤ 1000) ∧ (r = 0 → o.var ≤ m) ∧ (r = 1 → m = 0 → high o.prec k = true) from ⟨by omega, fun h => absurd h q3, fun h => absurd h q5⟩)
                  clear hG q3 q5
                  go_wp2_with fail
                  go_roundw
                  case rel =>
                    refine ⟨k + 1, by have := Hlt.out; omega, by go_num, fun j hj hjk => ?_, Hhw.out, HhB1.out, HhB2.out⟩
                    by_cases hjk' : j = k
                    · subst hjk'
                      have e1 : o.weights.getD j 0 = m := by
                        have : j < o.weights.length := by have := hF.out.1; omega
                        rw [Hhm'.out]; simp [this]
                      have q := HV.out
                      rw [Hhr.out] at q
                      refine ⟨by rw [e1]; exact q.1, fun h => by rw [e1]; exact q.2.1 h, fun h1 h2 => ?_⟩
                      rw [e1] at h2
                      exact of_decide_eq_true (q.2.2 h1 h2)
                    · exact Hhall.out j hj (by omega)
                  case measure => simp [intOf]; have := Hlt.out; omega
            · have HV := Lib.hid (show OrdOk sg o from ⟨h1'.out, hlen.out, hrk.out, fun _ => ⟨hF.out.1, hF.out.2.1, hF.out.2.2.1, hF.out.2.2.2, fun i h => hall.out i h (by omega)⟩⟩)
              go_wp2_with fail
              go_ret
              exact ⟨⟨0, rfl, fun _ => HV.out⟩, hw⟩
  · have hqb : (sigCheck sg != 0) = true := by simpa using h1
    have Hhs0 := Lib.hid hs0
    have Hho0 := Lib.hid ho0
    clear hs0 ho0
    clear h1
    generalize sigCheck sg = q at *
    go_enter Try.func31, Try.ntmps31
    go_wp2_with fail
    refine (SC _ _ (Hhs0.out.below (balloc2 _ _ _))).mono ?_
    rintro e w1 ⟨rfl, hb1⟩
    obtain ⟨B1, B2, hw1⟩ := box2 hb1
    have k0 := B1 0 _ rfl
    obtain ⟨u0, u1, u2, u3⟩ := B2.four
    have Hhw1 := Lib.hid hw1
    have HB1 := Lib.hid B1
    have HB2 := Lib.hid B2
    clear hw1 B1 B2
    clear hb1
    go_wp2_with fail
    go_ret
    exact ⟨⟨2, rfl, fun h => by omega⟩, Hhw1.out⟩

end Go.Proofs.Ytjkpecjlpgcalaa
