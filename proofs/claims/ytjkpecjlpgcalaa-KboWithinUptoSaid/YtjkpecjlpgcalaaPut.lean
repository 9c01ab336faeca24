/- Terms put in for variables, and copies of terms: what they are, and where they lie. -/
import Derived.Test.YtjkpecjlpgcalaaGrow
import Derived.Test.YtjkpecjlpgcalaaOps
import Derived.Test.YtjkpecjlpgcalaaKboMath2
namespace Go.Proofs.Ytjkpecjlpgcalaa
open Go.RowKit Go.Sort Go

def putSp (w : World) (bt ot ct k cl : Nat) (al : Option Addr) (ar ls : List T) (rv u x : Value) : List (Bool × Value) := [(true, .pointer (some ⟨(w.heap.size + 2), 1, none⟩)), (true, rv), (true, .pointer (some ⟨w.heap.size, 1, none⟩)), (true, .slice (some ⟨bt, ot, none⟩) ar.length ct), (true, .int .i64 k), (true, .pointer (some ⟨bt, ot + k * 2, none⟩)), (true, (.agg #[u, x])), (true, .slice al ls.length cl), (true, undef), (true, undef), (true, undef), (true, .pointer (some ⟨(w.heap.size + 2), 1, none⟩)), (true, undef)]
def copySp (w : World) (bt ot ct k : Nat) (ar : List T) (rv u x : Value) : List (Bool × Value) := [(true, .pointer (some ⟨(w.heap.size + 2), 1, none⟩)), (true, rv), (true, .pointer (some ⟨w.heap.size, 1, none⟩)), (true, .slice (some ⟨bt, ot, none⟩) ar.length ct), (true, .int .i64 k), (true, .pointer (some ⟨bt, ot + k * 2, none⟩)), (true, (.agg #[u, x])), (true, undef), (true, undef), (true, undef), (true, .pointer (some ⟨(w.heap.size + 2), 1, none⟩)), (true, undef)]

theorem len_sizeL : ∀ l : List T, l.length ≤ T.sizeL l
  | [] => by simp [T.sizeL]
  | t :: r => by have := len_sizeL r; have := T.size_eq t; simp [T.sizeL]; omega
set_option maxHeartbeats 2000000 in
theorem copy_any (B : Nat) : ∀ (t : T) (w : World) (v : Value), t.size ≤ 4294967296 → InT (fun b => b < B) w t v → B ≤ w.heap.size →
    Calls Try.prog 34 #[v] w fun e w' => ∃ v', e = .returned v' ∧ (InT (New B w.heap.size) w' t v' ∧ Below w.heap.size w w') := by
  intro t
  induction t using T.ind with
  | h f ar ih =>
    intro w v hmax hv hB
    obtain ⟨hf, at_, ct, rfl, hc, hm, hl⟩ := hv
    have hlen : ar.length ≤ 4294967295 := by
      have := T.size_eq (T.mk f ar)
      have h2 := len_sizeL ar
      simp at this; omega
    unfold maxLen at hm
    go_enter Try.func34, Try.ntmps34
    go_wp2_with (refine stop_region ?_)
    go_loopw [4] (fun i wr => ∃ (k : Nat) (rv : Value), k ≤ ar.length ∧ i = .int .i64 k ∧ Hid (Grow B w (.int .i64 f) (.slice at_ ar.length ct) f (ar.take k) wr rv rv) ∧ Hid (∃ a n c, rv = .slice a n c)) (fun i _ => ar.length - (intOf i).toNat)
    case atStart =>
      exact ⟨0, .slice none 0 0, Nat.zero_le _, rfl, .start3 hB, ⟨_, _, _, rfl⟩⟩
    case round =>
      obtain ⟨k, rv, hk, rfl, HG, hsh⟩ := hrel
      have k0 := HG.out.arg.cell 0
      have k1 := HG.out.arg.cell 1
      simp only [List.getElem?_toArray, List.getElem?_cons_zero, List.getElem?_cons_succ] at k0 k1
      by_cases hlt : k < ar.length
      · obtain ⟨bt, ot, u, x, rfl, hS, g0, g1, gt⟩ := hl.at_ k hlt
        have RC := Lib.hid (fun (w : World) => ih ar[k] (List.getElem_mem hlt) w (.agg #[u, x]) (by have := T.size_eq (T.mk f ar); have := T.size_le_sizeL (List.getElem_mem hlt); simp at *; omega))
        have HS := Lib.hid hS
        have Hlt := Lib.hid hlt
        have Hmax := Lib.hid hlen
        have HR := Lib.hid (show ∀ b, rv.ownBlock = some b → b < wr.heap.size from fun b hb => by obtain ⟨xs, h1, _⟩ := HG.out.rows; exact (h1.lt b hb).2)
        have HN := Lib.hid (show w.heap.size + 3 ≤ wr.heap.size from HG.out.out.lt)
        have z1 : (k : Int) < (ar.length : Int) := by omega
        have Hg0 := Lib.hid g0
        have Hg1 := Lib.hid g1
        have Hgt := Lib.hid gt
        clear g0 g1 gt
        clear ih hS hlen
        go_wp2_with (refine stop_region ?_)
        refine Stop.mk ?_
        refine wp_region_chain [7, 8, 9, 11] (optP (copySp w bt ot ct k ar rv u x)) (GrowG B w wr (.int .i64 f) (.slice (some ⟨bt, ot, none⟩) ar.length ct) f (ar.take k) rv (ar[k])) [false, false, false, false, false, false, false, false, false, false, false, false, false, false, false, true, true, true, true, true, true, true, true, true, true, true, false] (by kernel_rfl) (by kernel_rfl) (by kernel_rfl) (by decide) (by kernel_rfl) (by kernel_rfl) (⟨rfl, HG.out.drew⟩) ?_ ?_
        · refine ⟨.inl ⟨by decide, true, .none rfl, fun h => optUndef h, fun hβ fx wx vs C => ?_⟩, ?_⟩
          · exact wp_fld_apiTerm_1 rfl ((rel_eval (by kernel_rfl)).trans (show fx 3 = .pointer (some ⟨(w.heap.size + 2), 0, none⟩) from C.keep 3 (by kernel_rfl))) ⟨_, rfl, rfl, optDef hβ rfl⟩
          refine ⟨.inl ⟨by decide, true, .none rfl, fun h => optUndef h, fun hβ fx wx vs C => ?_⟩, ?_⟩
          · exact wp_ld_LapiTerm rfl ((rel_eval (by kernel_rfl)).trans (optPVal (x := .pointer (some ⟨(w.heap.size + 2), 1, none⟩)) (β := true) (C.dep 0 15 (by kernel_rfl) (by decide)) rfl rfl)) (C.now.out (Nat.le_trans (C.most 2 9 rfl (by kernel_rfl)) (by decide))) ⟨_, rfl, rfl, optDef hβ rfl⟩
          refine ⟨.inl ⟨by decide, true, .none rfl, fun h => optUndef h, fun hβ fx wx vs C => ?_⟩, ?_⟩
          · exact wp_fld_apiTerm_1 rfl ((rel_eval (by kernel_rfl)).trans (show fx 1 = .pointer (some ⟨w.heap.size, 0, none⟩) from C.keep 1 (by kernel_rfl))) ⟨_, rfl, rfl, optDef hβ rfl⟩
          refine ⟨.inl ⟨by decide, true, .none rfl, fun h => optUndef h, fun hβ fx wx vs C => ?_⟩, ?_⟩
          · exact wp_ld_LapiTerm rfl ((rel_eval (by kernel_rfl)).trans (optPVal (x := .pointer (some ⟨w.heap.size, 1, none⟩)) (β := true) (C.dep 2 17 (by kernel_rfl) (by decide)) rfl rfl)) (C.now.arg.2) ⟨_, rfl, rfl, optDef hβ rfl⟩
          refine ⟨.inl ⟨by decide, true, .none rfl, fun h => optUndef h, fun hβ fx wx vs C => ?_⟩, ?_⟩
          · exact wp_move rfl ((rel_eval (by kernel_rfl)).trans (show fx 4 = .int .i64 k from C.keep 4 (by kernel_rfl))) ⟨_, rfl, rfl, optDef hβ rfl⟩
          refine ⟨.inl ⟨by decide, true, .none rfl, fun h => optUndef h, fun hβ fx wx vs C => ?_⟩, ?_⟩
          · exact wp_ix_LapiTerm rfl ((rel_eval (by kernel_rfl)).trans (optPVal (x := .slice (some ⟨bt, ot, none⟩) ar.length ct) (β := true) (C.dep 3 18 (by kernel_rfl) (by decide)) rfl rfl)) ((rel_eval (by kernel_rfl)).trans (optPVal (x := .int .i64 k) (β := true) (C.dep 4 19 (by kernel_rfl) (by decide)) rfl rfl)) (Hlt.out) ⟨_, rfl, rfl, optDef hβ rfl⟩
          refine ⟨.inl ⟨by decide, true, .none rfl, fun h => optUndef h, fun hβ fx wx vs C => ?_⟩, ?_⟩
          · exact wp_ld_apiTerm rfl ((rel_eval (by kernel_rfl)).trans (optPVal (x := .pointer (some ⟨bt, ot + k * 2, none⟩)) (β := true) (C.dep 5 20 (by kernel_rfl) (by decide)) rfl rfl)) (C.now.old HS.out Hg0.out) (C.now.old HS.out Hg1.out) ⟨_, rfl, rfl, optDef hβ rfl⟩
          refine ⟨.inr ⟨0, rfl, rfl, fun fx wx vs C hlen => ?_⟩, ?_⟩
          · obtain ⟨rfl⟩ := vs_eq0 hlen
            exact wp_call (by kernel_rfl) rfl (hv1 ((rel_eval (by kernel_rfl)).trans (optPVal (x := (.agg #[u, x])) (β := true) (C.dep 6 21 (by kernel_rfl) (by decide)) rfl rfl))) (RC.out _ (C.now.oldT Hgt.out) C.now.size) (fun v w' h => ⟨v, rfl, C.now.call h.1 h.2⟩)
          refine ⟨.inr ⟨1, rfl, rfl, fun fx wx vs C hlen => ?_⟩, ?_⟩
          · obtain ⟨v0, rfl⟩ := vs_eq1 hlen
            exact wp_rowT rfl ((rel_eval (by kernel_rfl)).trans (Option.some.inj (C.link 0 7 22 rfl (by kernel_rfl))).symm) (C.now.inT) (fun u y h1 h2 h3 => ⟨_, rfl, C.now.row h1 h2 h3⟩)
          refine ⟨.inr ⟨2, rfl, rfl, fun fx wx vs C hlen => ?_⟩, ?_⟩
          · obtain ⟨v0, v1, rfl⟩ := vs_eq2 hlen
            exact wp_appendT rfl ((rel_eval (by kernel_rfl)).trans (optPVal (x := rv) (β := true) (C.dep 1 16 (by kernel_rfl) (by decide)) rfl rfl)) ((rel_eval (by kernel_rfl)).trans (Option.some.inj (C.link 1 8 23 rfl (by kernel_rfl))).symm) (by have := Hmax.out; simp; omega) C.now HR.out HN.out (fun r w' h => ⟨_, rfl, h⟩)
          refine ⟨.inl ⟨by decide, true, .none rfl, fun h => optUndef h, fun hβ fx wx vs C => ?_⟩, ?_⟩
          · exact wp_fld_apiTerm_1 rfl ((rel_eval (by kernel_rfl)).trans (show fx 3 = .pointer (some ⟨(w.heap.size + 2), 0, none⟩) from C.keep 3 (by kernel_rfl))) ⟨_, rfl, rfl, optDef hβ rfl⟩
          refine ⟨.inr ⟨3, rfl, rfl, fun fx wx vs C hlen => ?_⟩, ?_⟩
          · obtain ⟨v0, v1, v2, rfl⟩ := vs_eq3 hlen
            obtain ⟨hq, ra, rn, rc, hr⟩ := C.now.three
            subst hr
            exact wp_storeT rfl ((rel_eval (by kernel_rfl)).trans (optPVal (x := .pointer (some ⟨(w.heap.size + 2), 1, none⟩)) (β := true) (C.dep 10 25 (by kernel_rfl) (by decide)) rfl rfl)) ((rel_eval (by kernel_rfl)).trans (Option.some.inj (C.link 2 9 24 rfl (by kernel_rfl))).symm) (hq.out.cell 1) (hq.out.frozen 1) (fun v => ⟨v, rfl, C.now.store⟩)
          exact trivial
        intro ux w3 vs hlen hG hu hch
        obtain ⟨v0, v1, v2, v3, rfl⟩ := vs_eq4 hlen
        obtain ⟨hG2, hsh2⟩ := hG.four
        have HhG2 := Lib.hid hG2
        have Hhsh2 := Lib.hid hsh2
        clear hG2 hsh2
        clear hG hu hch HG hsh k0 k1
        simp only [finM]
        go_wp2_with fail
        go_roundw
        case rel => exact ⟨k + 1, v2, by omega, by go_num, by rw [List.take_succ_eq_append_getElem hlt]; exact HhG2.out, Hhsh2.out⟩
        case measure => simp [intOf]; omega
      · obtain rfl : k = ar.length := by omega
        obtain ⟨ra, rn, rc, rfl⟩ := hsh.out
        have o0 := HG.out.out.cell 0
        have o1 := HG.out.out.cell 1
        obtain ⟨x0, x1, hr⟩ := HG.out.res
        have c0 := hr.cell 0
        have c1 := hr.cell 1
        have y0 := hr.frozen 0
        have y1 := hr.frozen 1
        simp only [List.getElem?_toArray, List.getElem?_cons_zero, List.getElem?_cons_succ] at o0 o1 c0 c1
        have Hhr := Lib.hid hr
        clear hr
        go_wp2_with fail
        refine bodyPost_ret (v := .agg #[.int .i64 f, .slice ra rn rc]) (by simp [results, Try.results34, go_sem, c0, c1]) rfl ?_
        have := HG.out.finish (u0 := .int .i64 f) (u1 := .slice ra rn rc) hf
        rw [List.take_length] at this
        exact ⟨_, rfl, this.1, this.2⟩

set_option maxHeartbeats 4000000 in
theorem put_any (B : Nat) (ls : List T) : ∀ (t : T) (w : World) (v : Value) (al : Option Addr) (cl : Nat), t.size ≤ 4294967296 → InT (fun b => b < B) w t v → InTs (fun b => b < B) w ls al 0 → ls.length ≤ cl → cl ≤ maxLen → B ≤ w.heap.size →
    Calls Try.prog 19 #[v, .slice al ls.length cl] w fun e w' => ∃ v', e = .returned v' ∧ (InT (New B w.heap.size) w' (t.put ls) v' ∧ Below w.heap.size w w') := by
  intro t
  induction t using T.ind with
  | h f ar ih =>
    intro w v al cl hmax hv hls hlc hlm hB
    obtain ⟨hf, at_, ct, rfl, hc, hm, hl⟩ := id hv
    have hlen : ar.length ≤ 4294967295 := by
      have := T.size_eq (T.mk f ar)
      have h2 := len_sizeL ar
      simp at this; omega
    unfold maxLen at hm
    have hlm' := hlm
    unfold maxLen at hlm'
    by_cases hneg : f < 0
    · obtain ⟨n, rfl⟩ : ∃ n : Nat, f = -1 - n := ⟨(-1 - f).toNat, by omega⟩
      have hn : (-1 - (-1 - (n : Int))).toNat = n := by omega
      have hwr : IntKind.i64.wrap (-1 - (-1 - (n : Int))) = n := by
        have := hf.1
        rw [show -1 - (-1 - (n : Int)) = n by omega]
        exact IntWalk.i64_in _ (by omega)
      by_cases hlt : n < ls.length
      · obtain ⟨bl, ol, u, x, rfl, hS, g0, g1, gt⟩ := hls.at_ n hlt
        obtain ⟨hfi, aa, cc, hux, hcc, hcm, hll⟩ := gt.form
        simp only [Value.agg.injEq, Array.mk.injEq, List.cons.injEq, and_true] at hux
        obtain ⟨rfl, rfl⟩ := hux
        have z0 : (0 : Int) ≤ (n : Int) := by omega
        have z1 : (n : Int) < (ls.length : Int) := by omega
        have g0 := calloc (calloc g0 (.cells #[.int .i64 (-1 - n), .slice at_ ar.length ct] 27)) (.cells #[.int .i64 0, .slice none 0 0] 27)
        have g1 := calloc (calloc g1 (.cells #[.int .i64 (-1 - n), .slice at_ ar.length ct] 27)) (.cells #[.int .i64 0, .slice none 0 0] 27)
        have hget : T.put ls (.mk (-1 - n) ar) = ls[n] := by rw [T.put, if_pos hneg, hn]; simp [hlt]
        have Hgt := Lib.hid gt
        have Hhget := Lib.hid hget
        have Hhll := Lib.hid hll
        clear gt hget hll
        have Hv := Lib.hid hv
        clear hv ih
        go_enter Try.func19, Try.ntmps19
        go_wp2_with (refine stop_region ?_)
        refine bodyPost_ret (v := .agg #[.int .i64 ls[n].f, .slice aa ls[n].args.length cc]) (by simp [results, Try.results19, go_sem]) rfl ?_
        refine ⟨_, rfl, ?_, balloc2 _ _ _⟩
        rw [Hhget.out]
        exact (Hgt.out.below (balloc2 _ _ _)).mono (fun b hb _ => .inl hb)
      · have z1 : ¬ (n : Int) < (ls.length : Int) := by omega
        have hget : T.put ls (.mk (-1 - n) ar) = .mk (-1 - n) ar := by rw [T.put, if_pos hneg, hn, List.getD_eq_getElem?_getD, List.getElem?_eq_none (by omega)]; rfl
        have Hhget := Lib.hid hget
        clear hget
        have Hv := Lib.hid hv
        clear hv ih hlt
        go_enter Try.func19, Try.ntmps19
        go_wp2_with (refine stop_region ?_)
        refine bodyPost_ret (v := .agg #[.int .i64 (-1 - n), .slice at_ ar.length ct]) (by simp [results, Try.results19, go_sem]) rfl ?_
        refine ⟨_, rfl, ?_, balloc2 _ _ _⟩
        rw [Hhget.out]
        exact (Hv.out.below (balloc2 _ _ _)).mono (fun b hb _ => .inl hb)
    · have Hneg := Lib.hid hneg
      go_enter Try.func19, Try.ntmps19
      go_wp2_with (refine stop_region ?_)
      go_loopw [6] (fun i wr => ∃ (k : Nat) (rv : Value), k ≤ ar.length ∧ i = .int .i64 k ∧ Hid (Grow B w (.int .i64 f) (.slice at_ ar.length ct) f ((ar.take k).map (T.put ls)) wr rv rv) ∧ Hid (∃ a n c, rv = .slice a n c)) (fun i _ => ar.length - (intOf i).toNat)
      case atStart =>
        exact ⟨0, .slice none 0 0, Nat.zero_le _, rfl, .start3 hB, ⟨_, _, _, rfl⟩⟩
      case round =>
        obtain ⟨k, rv, hk, rfl, HG, hsh⟩ := hrel
        have k0 := HG.out.arg.cell 0
        have k1 := HG.out.arg.cell 1
        simp only [List.getElem?_toArray, List.getElem?_cons_zero, List.getElem?_cons_succ] at k0 k1
        by_cases hlt : k < ar.length
        · obtain ⟨bt, ot, u, x, rfl, hS, g0, g1, gt⟩ := hl.at_ k hlt
          have RC := Lib.hid (fun (w : World) (h1 : InT (fun b => b < B) w ar[k] (.agg #[u, x])) (h2 : InTs (fun b => b < B) w ls al 0) => ih ar[k] (List.getElem_mem hlt) w (.agg #[u, x]) al cl (by have := T.size_eq (T.mk f ar); have := T.size_le_sizeL (List.getElem_mem hlt); simp at *; omega) h1 h2 hlc hlm)
          have HS := Lib.hid hS
          have Hlt := Lib.hid hlt
          have Hmax := Lib.hid hlen
          have HR := Lib.hid (show ∀ b, rv.ownBlock = some b → b < wr.heap.size from fun b hb => by obtain ⟨xs, h1, _⟩ := HG.out.rows; exact (h1.lt b hb).2)
          have HN := Lib.hid (show w.heap.size + 3 ≤ wr.heap.size from HG.out.out.lt)
          have z1 : (k : Int) < (ar.length : Int) := by omega
          have Hls := Lib.hid hls
          have Hg0 := Lib.hid g0
          have Hg1 := Lib.hid g1
          have Hgt := Lib.hid gt
          clear g0 g1 gt
          clear ih hS hlen hls
          go_wp2_with (refine stop_region ?_)
          refine Stop.mk ?_
          refine wp_region_chain [8, 9, 10, 12] (optP (putSp w bt ot ct k cl al ar ls rv u x)) (GrowG B w wr (.int .i64 f) (.slice (some ⟨bt, ot, none⟩) ar.length ct) f ((ar.take k).map (T.put ls)) rv (ar[k].put ls)) [false, false, false, false, false, false, false, false, false, false, false, false, false, false, false, false, false, false, false, false, false, false, false, false, false, false, false, false, false, false, false, false, false, true, true, true, true, true, true, true, true, true, true, true, true, false] (by kernel_rfl) (by kernel_rfl) (by kernel_rfl) (by decide) (by kernel_rfl) (by kernel_rfl) (⟨rfl, HG.out.drew⟩) ?_ ?_
          · refine ⟨.inl ⟨by decide, true, .none rfl, fun h => optUndef h, fun hβ fx wx vs C => ?_⟩, ?_⟩
            · exact wp_fld_apiTerm_1 rfl ((rel_eval (by kernel_rfl)).trans (show fx 5 = .pointer (some ⟨(w.heap.size + 2), 0, none⟩) from C.keep 5 (by kernel_rfl))) ⟨_, rfl, rfl, optDef hβ rfl⟩
            refine ⟨.inl ⟨by decide, true, .none rfl, fun h => optUndef h, fun hβ fx wx vs C => ?_⟩, ?_⟩
            · exact wp_ld_LapiTerm rfl ((rel_eval (by kernel_rfl)).trans (optPVal (x := .pointer (some ⟨(w.heap.size + 2), 1, none⟩)) (β := true) (C.dep 0 33 (by kernel_rfl) (by decide)) rfl rfl)) (C.now.out (Nat.le_trans (C.most 2 10 rfl (by kernel_rfl)) (by decide))) ⟨_, rfl, rfl, optDef hβ rfl⟩
            refine ⟨.inl ⟨by decide, true, .none rfl, fun h => optUndef h, fun hβ fx wx vs C => ?_⟩, ?_⟩
            · exact wp_fld_apiTerm_1 rfl ((rel_eval (by kernel_rfl)).trans (show fx 2 = .pointer (some ⟨w.heap.size, 0, none⟩) from C.keep 2 (by kernel_rfl))) ⟨_, rfl, rfl, optDef hβ rfl⟩
            refine ⟨.inl ⟨by decide, true, .none rfl, fun h => optUndef h, fun hβ fx wx vs C => ?_⟩, ?_⟩
            · exact wp_ld_LapiTerm rfl ((rel_eval (by kernel_rfl)).trans (optPVal (x := .pointer (some ⟨w.heap.size, 1, none⟩)) (β := true) (C.dep 2 35 (by kernel_rfl) (by decide)) rfl rfl)) (C.now.arg.2) ⟨_, rfl, rfl, optDef hβ rfl⟩
            refine ⟨.inl ⟨by decide, true, .none rfl, fun h => optUndef h, fun hβ fx wx vs C => ?_⟩, ?_⟩
            · exact wp_move rfl ((rel_eval (by kernel_rfl)).trans (show fx 6 = .int .i64 k from C.keep 6 (by kernel_rfl))) ⟨_, rfl, rfl, optDef hβ rfl⟩
            refine ⟨.inl ⟨by decide, true, .none rfl, fun h => optUndef h, fun hβ fx wx vs C => ?_⟩, ?_⟩
            · exact wp_ix_LapiTerm rfl ((rel_eval (by kernel_rfl)).trans (optPVal (x := .slice (some ⟨bt, ot, none⟩) ar.length ct) (β := true) (C.dep 3 36 (by kernel_rfl) (by decide)) rfl rfl)) ((rel_eval (by kernel_rfl)).trans (optPVal (x := .int .i64 k) (β := true) (C.dep 4 37 (by kernel_rfl) (by decide)) rfl rfl)) (Hlt.out) ⟨_, rfl, rfl, optDef hβ rfl⟩
            refine ⟨.inl ⟨by decide, true, .none rfl, fun h => optUndef h, fun hβ fx wx vs C => ?_⟩, ?_⟩
            · exact wp_ld_apiTerm rfl ((rel_eval (by kernel_rfl)).trans (optPVal (x := .pointer (some ⟨bt, ot + k * 2, none⟩)) (β := true) (C.dep 5 38 (by kernel_rfl) (by decide)) rfl rfl)) (C.now.old HS.out Hg0.out) (C.now.old HS.out Hg1.out) ⟨_, rfl, rfl, optDef hβ rfl⟩
            refine ⟨.inl ⟨by decide, true, .none rfl, fun h => optUndef h, fun hβ fx wx vs C => ?_⟩, ?_⟩
            · exact wp_move rfl ((rel_eval (by kernel_rfl)).trans (show fx 1 = .slice al ls.length cl from C.keep 1 (by kernel_rfl))) ⟨_, rfl, rfl, optDef hβ rfl⟩
            refine ⟨.inr ⟨0, rfl, rfl, fun fx wx vs C hlen => ?_⟩, ?_⟩
            · obtain ⟨rfl⟩ := vs_eq0 hlen
              exact wp_call (by kernel_rfl) rfl (hv2 ((rel_eval (by kernel_rfl)).trans (optPVal (x := (.agg #[u, x])) (β := true) (C.dep 6 39 (by kernel_rfl) (by decide)) rfl rfl)) ((rel_eval (by kernel_rfl)).trans (optPVal (x := .slice al ls.length cl) (β := true) (C.dep 7 40 (by kernel_rfl) (by decide)) rfl rfl))) (RC.out _ (C.now.oldT Hgt.out) (C.now.oldTs Hls.out) C.now.size) (fun v w' h => ⟨v, rfl, C.now.call h.1 h.2⟩)
            refine ⟨.inr ⟨1, rfl, rfl, fun fx wx vs C hlen => ?_⟩, ?_⟩
            · obtain ⟨v0, rfl⟩ := vs_eq1 hlen
              exact wp_rowT rfl ((rel_eval (by kernel_rfl)).trans (Option.some.inj (C.link 0 8 41 rfl (by kernel_rfl))).symm) (C.now.inT) (fun u y h1 h2 h3 => ⟨_, rfl, C.now.row h1 h2 h3⟩)
            refine ⟨.inr ⟨2, rfl, rfl, fun fx wx vs C hlen => ?_⟩, ?_⟩
            · obtain ⟨v0, v1, rfl⟩ := vs_eq2 hlen
              exact wp_appendT rfl ((rel_eval (by kernel_rfl)).trans (optPVal (x := rv) (β := true) (C.dep 1 34 (by kernel_rfl) (by decide)) rfl rfl)) ((rel_eval (by kernel_rfl)).trans (Option.some.inj (C.link 1 9 42 rfl (by kernel_rfl))).symm) (by have := Hmax.out; simp; omega) C.now HR.out HN.out (fun r w' h => ⟨_, rfl, h⟩)
            refine ⟨.inl ⟨by decide, true, .none rfl, fun h => optUndef h, fun hβ fx wx vs C => ?_⟩, ?_⟩
            · exact wp_fld_apiTerm_1 rfl ((rel_eval (by kernel_rfl)).trans (show fx 5 = .pointer (some ⟨(w.heap.size + 2), 0, none⟩) from C.keep 5 (by kernel_rfl))) ⟨_, rfl, rfl, optDef hβ rfl⟩
            refine ⟨.inr ⟨3, rfl, rfl, fun fx wx vs C hlen => ?_⟩, ?_⟩
            · obtain ⟨v0, v1, v2, rfl⟩ := vs_eq3 hlen
              obtain ⟨hq, ra, rn, rc, hr⟩ := C.now.three
              subst hr
              exact wp_storeT rfl ((rel_eval (by kernel_rfl)).trans (optPVal (x := .pointer (some ⟨(w.heap.size + 2), 1, none⟩)) (β := true) (C.dep 11 44 (by kernel_rfl) (by decide)) rfl rfl)) ((rel_eval (by kernel_rfl)).trans (Option.some.inj (C.link 2 10 43 rfl (by kernel_rfl))).symm) (hq.out.cell 1) (hq.out.frozen 1) (fun v => ⟨v, rfl, C.now.store⟩)
            exact trivial
          intro ux w3 vs hlen hG hu hch
          obtain ⟨v0, v1, v2, v3, rfl⟩ := vs_eq4 hlen
          obtain ⟨hG2, hsh2⟩ := hG.four
          have HhG2 := Lib.hid hG2
          have Hhsh2 := Lib.hid hsh2
          clear hG2 hsh2
          clear hG hu hch HG hsh k0 k1
          simp only [finM]
          go_wp2_with fail
          go_roundw
          case rel => exact ⟨k + 1, v2, by omega, by go_num, by rw [List.take_succ_eq_append_getElem hlt, List.map_append]; exact HhG2.out, Hhsh2.out⟩
          case measure => simp [intOf]; omega
        · obtain rfl : k = ar.length := by omega
          obtain ⟨ra, rn, rc, rfl⟩ := hsh.out
          have o0 := HG.out.out.cell 0
          have o1 := HG.out.out.cell 1
          obtain ⟨x0, x1, hr⟩ := HG.out.res
          have c0 := hr.cell 0
          have c1 := hr.cell 1
          have y0 := hr.frozen 0
          have y1 := hr.frozen 1
          simp only [List.getElem?_toArray, List.getElem?_cons_zero, List.getElem?_cons_succ] at o0 o1 c0 c1
          have Hhr := Lib.hid hr
          clear hr
          go_wp2_with fail
          refine bodyPost_ret (v := .agg #[.int .i64 f, .slice ra rn rc]) (by simp [results, Try.results19, go_sem, c0, c1]) rfl ?_
          have := HG.out.finish (u0 := .int .i64 f) (u1 := .slice ra rn rc) hf
          rw [List.take_length, ← T.putL_map] at this
          rw [T.put, if_neg (by have := Hneg.out; omega)]
          exact ⟨_, rfl, this.1, this.2⟩

end Go.Proofs.Ytjkpecjlpgcalaa
