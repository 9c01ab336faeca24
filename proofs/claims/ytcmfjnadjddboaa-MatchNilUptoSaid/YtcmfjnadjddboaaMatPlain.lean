/- Variables without arguments: the program and the document; literals that are atoms. -/
import Derived.Test.YtcmfjnadjddboaaPlainT
import Derived.Test.YtcmfjnadjddboaaCopies
import Derived.Test.YtcmfjnadjddboaaMatSt
import Derived.Test.YtcmfjnadjddboaaLit
namespace Go.Proofs.Ytcmfjnadjddboaa
open Go.RowKit Go

theorem IsTp.of {w : World} {b o : Nat} {a : Option Addr} {c : Nat} {t : T} (h1 : w.cell? ⟨b, o, none⟩ = some (.int .i64 t.f)) (h2 : w.cell? ⟨b, o + 1, none⟩ = some (.slice a t.args.length c)) (h3 : IsT w t (.agg #[.int .i64 t.f, .slice a t.args.length c])) : IsTp w t (.pointer (some ⟨b, o, none⟩)) := ⟨b, o, a, c, rfl, h1, h2, h3⟩
set_option maxRecDepth 100000 in
theorem plainp_any : ∀ (t : T) (w : World) (v : Value), t.size ≤ 4294967296 → IsTp w t v → Calls Try.prog 33 #[v] w (Ret fun v' w' => v' = .bool t.plain ∧ Below w.heap.size w w') := by
  refine T.ind (fun f l ih => ?_)
  intro w v hz hv
  have hlen := len_le_sizeL l
  have hz' := hz
  simp only [T.size] at hz'
  obtain ⟨b, o, a, c, rfl, hc1, hc2, hT⟩ := hv
  obtain ⟨hf, a', c', e', hc, hm, hl⟩ := hT
  obtain ⟨rfl, rfl⟩ : a = a' ∧ c = c' := by simpa using e'
  simp only [T.f_mk, T.args_mk] at hc1 hc2
  refine Calls.walk (l := [.pointer (some ⟨b, o, none⟩)]) Try.func33 rfl (by kernel_rfl) ?_
  refine WC.sub (K' := [(0, .pointer (some ⟨b, o, none⟩))]) ⟨rfl, trivial⟩ ?_
  refine WC.seq ?_
  refine WC.region ?_
  refine WL.val (.bool false) rfl rfl rfl (fun za zC zh zk => wp_assign rfl (zh.ev rfl) zk) ?_
  refine WL.nil (WE.sub (K' := [(0, .pointer (some ⟨b, o, none⟩)), (2, .bool false)]) ⟨rfl, rfl, trivial⟩ ?_)
  refine WE.next ?_
  refine WC.seq ?_
  refine WC.seq ?_
  refine WC.opt [(true, .val (.pointer (some ⟨b, o, none⟩))), (true, .val (.pointer (some ⟨b, o, none⟩))), (true, .val (.pointer (some ⟨b, o, none⟩))), (true, .val (.int .i64 f)), (true, .val (.bool ((decide ((f : Int) < (0 : Int)))))), (true, .val (.bool ((decide ((f : Int) < (0 : Int)))))), ((true && (decide ((f : Int) < (0 : Int)))), .val (.pointer (some ⟨b, o, none⟩))), ((true && (decide ((f : Int) < (0 : Int)))), .val (.pointer (some ⟨b, o, none⟩))), ((true && (decide ((f : Int) < (0 : Int)))), .val (.pointer (some ⟨b, o + 1, none⟩))), ((true && (decide ((f : Int) < (0 : Int)))), .val (.slice a l.length c)), ((true && (decide ((f : Int) < (0 : Int)))), .val (.int .i64 (((l.length : Nat) : Int)))), ((true && (decide ((f : Int) < (0 : Int)))), .val (.bool ((decide ((0 : Int) < (((l.length : Nat) : Int) : Int)))))), (true, .val (.bool (((decide ((f : Int) < (0 : Int))) && (decide ((0 : Int) < (((l.length : Nat) : Int) : Int)))))))] [(0, .pointer (some ⟨b, o, none⟩)), (2, .bool false)] ⟨rfl, rfl, trivial⟩ (by kernel_rfl) (by kernel_rfl) (by kernel_rfl) ?_ ?_
  · refine ⟨⟨true, .none rfl, fun h w => optUndef h, fun zβ za zw zc => ?_⟩, ?_⟩
    · exact wp_move rfl (zc.kn.ev rfl) ⟨_, rfl, Below.refl _ _, optDef zβ rfl⟩
    refine ⟨⟨true, .none rfl, fun h w => optUndef h, fun zβ za zw zc => ?_⟩, ?_⟩
    · exact nilCheck_ rfl ((show za.eval (.tmp 4) = za.tmps.getD 4 undef from rfl).trans (optVal (zc.dep 0 4 (by kernel_rfl)) rfl rfl)) ⟨_, rfl, Below.refl _ _, optDef zβ rfl⟩
    refine ⟨⟨true, .none rfl, fun h w => optUndef h, fun zβ za zw zc => ?_⟩, ?_⟩
    · exact fld_24_0 rfl ((show za.eval (.tmp 5) = za.tmps.getD 5 undef from rfl).trans (optVal (zc.dep 1 5 (by kernel_rfl)) rfl rfl)) ⟨_, rfl, Below.refl _ _, optDef zβ rfl⟩
    refine ⟨⟨true, .none rfl, fun h w => optUndef h, fun zβ za zw zc => ?_⟩, ?_⟩
    · exact ld_3 rfl ((show za.eval (.tmp 6) = za.tmps.getD 6 undef from rfl).trans (optVal (zc.dep 2 6 (by kernel_rfl)) rfl rfl)) (bkeeps zc.below _ _ hc1) ⟨_, rfl, Below.refl _ _, optDef zβ rfl⟩
    refine ⟨⟨true, .none rfl, fun h w => optUndef h, fun zβ za zw zc => ?_⟩, ?_⟩
    · exact lss_3 rfl ((show za.eval (.tmp 7) = za.tmps.getD 7 undef from rfl).trans (optVal (zc.dep 3 7 (by kernel_rfl)) rfl rfl)) (zc.kn.ev rfl) ⟨_, rfl, Below.refl _ _, optDef zβ rfl⟩
    refine ⟨⟨true, .none rfl, fun h w => optUndef h, fun zβ za zw zc => ?_⟩, ?_⟩
    · exact wp_move rfl ((show za.eval (.tmp 8) = za.tmps.getD 8 undef from rfl).trans (optVal (zc.dep 4 8 (by kernel_rfl)) rfl rfl)) ⟨_, rfl, Below.refl _ _, optDef zβ rfl⟩
    refine ⟨⟨(true && (decide ((f : Int) < (0 : Int)))), .yes (c := (decide ((f : Int) < (0 : Int)))) (d := true) rfl (fun v w h => h), fun h w => optUndef h, fun zβ za zw zc => ?_⟩, ?_⟩
    · exact wp_move rfl (zc.kn.ev rfl) ⟨_, rfl, Below.refl _ _, optDef zβ rfl⟩
    refine ⟨⟨(true && (decide ((f : Int) < (0 : Int)))), .yes (c := (decide ((f : Int) < (0 : Int)))) (d := true) rfl (fun v w h => h), fun h w => optUndef h, fun zβ za zw zc => ?_⟩, ?_⟩
    · exact nilCheck_ rfl ((show za.eval (.tmp 10) = za.tmps.getD 10 undef from rfl).trans (optVal (zc.dep 6 10 (by kernel_rfl)) rfl zβ)) ⟨_, rfl, Below.refl _ _, optDef zβ rfl⟩
    refine ⟨⟨(true && (decide ((f : Int) < (0 : Int)))), .yes (c := (decide ((f : Int) < (0 : Int)))) (d := true) rfl (fun v w h => h), fun h w => optUndef h, fun zβ za zw zc => ?_⟩, ?_⟩
    · exact fld_24_1 rfl ((show za.eval (.tmp 11) = za.tmps.getD 11 undef from rfl).trans (optVal (zc.dep 7 11 (by kernel_rfl)) rfl zβ)) ⟨_, rfl, Below.refl _ _, optDef zβ rfl⟩
    refine ⟨⟨(true && (decide ((f : Int) < (0 : Int)))), .yes (c := (decide ((f : Int) < (0 : Int)))) (d := true) rfl (fun v w h => h), fun h w => optUndef h, fun zβ za zw zc => ?_⟩, ?_⟩
    · exact ld_22 rfl ((show za.eval (.tmp 12) = za.tmps.getD 12 undef from rfl).trans (optVal (zc.dep 8 12 (by kernel_rfl)) rfl zβ)) (bkeeps zc.below _ _ hc2) ⟨_, rfl, Below.refl _ _, optDef zβ rfl⟩
    refine ⟨⟨(true && (decide ((f : Int) < (0 : Int)))), .yes (c := (decide ((f : Int) < (0 : Int)))) (d := true) rfl (fun v w h => h), fun h w => optUndef h, fun zβ za zw zc => ?_⟩, ?_⟩
    · exact len_22 rfl ((show za.eval (.tmp 13) = za.tmps.getD 13 undef from rfl).trans (optVal (zc.dep 9 13 (by kernel_rfl)) rfl zβ)) ⟨_, rfl, Below.refl _ _, optDef zβ rfl⟩
    refine ⟨⟨(true && (decide ((f : Int) < (0 : Int)))), .yes (c := (decide ((f : Int) < (0 : Int)))) (d := true) rfl (fun v w h => h), fun h w => optUndef h, fun zβ za zw zc => ?_⟩, ?_⟩
    · exact gtr_3 rfl ((show za.eval (.tmp 14) = za.tmps.getD 14 undef from rfl).trans (optVal (zc.dep 10 14 (by kernel_rfl)) rfl zβ)) (zc.kn.ev rfl) ⟨_, rfl, Below.refl _ _, optDef zβ rfl⟩
    refine ⟨⟨true, .none rfl, fun h w => optUndef h, fun zβ za zw zc => ?_⟩, ?_⟩
    · exact wp_and rfl ((show za.eval (.tmp 9) = za.tmps.getD 9 undef from rfl).trans (optVal (zc.dep 5 9 (by kernel_rfl)) rfl rfl)) (fun hp => ((show za.eval (.tmp 15) = za.tmps.getD 15 undef from rfl).trans (optVal (zc.dep 11 15 (by kernel_rfl)) rfl (bMk zβ hp)))) ⟨_, rfl, Below.refl _ _, optDef zβ rfl⟩
    exact trivial
  · intro za w1 zh hb2 zu
    have zh := zh.cons (d := 16) (v := .bool (((decide ((f : Int) < (0 : Int))) && (decide ((0 : Int) < (((l.length : Nat) : Int) : Int)))))) (optVal (zu 12 16 (by kernel_rfl)) rfl rfl)
    clear zu
    refine (show WE _ [(0, .pointer (some ⟨b, o, none⟩)), (2, .bool false), (16, .bool (((decide ((f : Int) < (0 : Int))) && (decide ((0 : Int) < (((l.length : Nat) : Int) : Int))))))] w1 _ .normal from ?_) za (zh.sub ⟨rfl, rfl, rfl, trivial⟩)
    refine WE.next ?_
    refine WC.cond rfl (fun h3 => ?_) (fun h3 => ?_)
    · have h3 : ((f : Int) < (0 : Int)) ∧ ((0 : Int) < (((l.length : Nat) : Int) : Int)) := by simpa using h3
      refine WC.seq ?_
      refine WC.region ?_
      refine WL.val (.bool false) rfl rfl rfl (fun za zC zh zk => wp_assign rfl (zh.ev rfl) zk) ?_
      refine WL.nil (WE.sub (K' := [(0, .pointer (some ⟨b, o, none⟩)), (2, .bool false), (16, .bool (((decide ((f : Int) < (0 : Int))) && (decide ((0 : Int) < (((l.length : Nat) : Int) : Int))))))]) ⟨rfl, rfl, rfl, trivial⟩ ?_)
      refine WE.next ?_
      refine WC.ret ?_
      refine WE.thenRet ?_
      refine WE.ret1 rfl rfl ?_
      have z := h3
      exact ⟨_, rfl, congrArg Value.bool (Eq.symm (plain_var (by omega) (by omega))), hb2⟩
    · have h3 : ¬ (((f : Int) < (0 : Int)) ∧ ((0 : Int) < (((l.length : Nat) : Int) : Int))) := by simpa using h3
      refine WC.skip ?_
      refine WE.next ?_
      refine WC.seq ?_
      refine WC.seq ?_
      refine WC.region ?_
      refine WL.val (.pointer (some ⟨b, o, none⟩)) rfl rfl rfl (fun za zC zh zk => wp_move rfl (zh.ev rfl) zk) ?_
      refine WL.val (.pointer (some ⟨b, o, none⟩)) rfl rfl rfl (fun za zC zh zk => nilCheck_ rfl (zh.ev rfl) zk) ?_
      refine WL.val (.pointer (some ⟨b, o + 1, none⟩)) rfl rfl rfl (fun za zC zh zk => fld_24_1 rfl (zh.ev rfl) zk) ?_
      refine WL.val (.slice a l.length c) rfl rfl rfl (fun za zC zh zk => ld_22 rfl (zh.ev rfl) (bkeeps hb2 _ _ hc2) zk) ?_
      refine WL.val (.int .i64 (((l.length : Nat) : Int))) rfl rfl rfl (fun za zC zh zk => len_22 rfl (zh.ev rfl) zk) ?_
      refine WL.val (.int .i64 0) rfl rfl rfl (fun za zC zh zk => wp_move rfl (zh.ev rfl) zk) ?_
      refine WL.nil (WE.sub (K' := [(0, .pointer (some ⟨b, o, none⟩)), (2, .bool false), (16, .bool (((decide ((f : Int) < (0 : Int))) && (decide ((0 : Int) < (((l.length : Nat) : Int) : Int)))))), (21, .int .i64 (((l.length : Nat) : Int))), (22, .int .i64 0)]) ⟨rfl, rfl, rfl, rfl, rfl, trivial⟩ ?_)
      refine WE.next ?_
      refine WC.block ?_
      refine WC.loop (X := Nat) (fun k => l.length - k) (fun k => [(0, .pointer (some ⟨b, o, none⟩)), (16, .bool (((decide ((f : Int) < (0 : Int))) && (decide ((0 : Int) < (((l.length : Nat) : Int) : Int)))))), (21, .int .i64 (((l.length : Nat) : Int))), (22, .int .i64 (((k : Nat) : Int)))]) (fun k w4 => k ≤ l.length ∧ (∀ i, i < k → (tget l i).plain = true) ∧ Below w.heap.size w w4) 0 ⟨rfl, rfl, rfl, rfl, trivial⟩ ?_ ?_
      · exact ⟨Nat.zero_le _, fun i h => absurd h (Nat.not_lt_zero i), hb2⟩
      · rintro k w4 ⟨hk, hE, hb5⟩
        refine WC.seq ?_
        refine WC.region ?_
        refine WL.val (.bool ((decide ((((k : Nat) : Int) : Int) < (((l.length : Nat) : Int) : Int))))) rfl rfl rfl (fun za zC zh zk => lss_3 rfl (zh.ev rfl) (zh.ev rfl) zk) ?_
        refine WL.nil (WE.sub (K' := [(0, .pointer (some ⟨b, o, none⟩)), (16, .bool (((decide ((f : Int) < (0 : Int))) && (decide ((0 : Int) < (((l.length : Nat) : Int) : Int)))))), (21, .int .i64 (((l.length : Nat) : Int))), (22, .int .i64 (((k : Nat) : Int))), (23, .bool ((decide ((((k : Nat) : Int) : Int) < (((l.length : Nat) : Int) : Int)))))]) ⟨rfl, rfl, rfl, rfl, rfl, trivial⟩ ?_)
        refine WE.next ?_
        refine WC.seq ?_
        refine WC.cond rfl (fun h6 => ?_) (fun h6 => ?_)
        · have h6 : (((k : Nat) : Int) : Int) < (((l.length : Nat) : Int) : Int) := by simpa using h6
          refine WC.skip ?_
          refine WE.next ?_
          refine WC.seq ?_
          refine WC.block ?_
          refine WC.seq ?_
          refine WC.region ?_
          refine WL.val (.int .i64 (((k : Nat) : Int))) rfl rfl rfl (fun za zC zh zk => wp_move rfl (zh.ev rfl) zk) ?_
          refine WL.val (.int .i64 (((k : Nat) : Int))) rfl rfl rfl (fun za zC zh zk => wp_assign rfl (zh.ev rfl) zk) ?_
          refine WL.nil (WE.sub (K' := [(0, .pointer (some ⟨b, o, none⟩)), (3, .int .i64 (((k : Nat) : Int))), (16, .bool (((decide ((f : Int) < (0 : Int))) && (decide ((0 : Int) < (((l.length : Nat) : Int) : Int)))))), (21, .int .i64 (((l.length : Nat) : Int))), (22, .int .i64 (((k : Nat) : Int))), (23, .bool ((decide ((((k : Nat) : Int) : Int) < (((l.length : Nat) : Int) : Int)))))]) ⟨rfl, rfl, rfl, rfl, rfl, rfl, trivial⟩ ?_)
          refine WE.next ?_
          refine WC.seq ?_
          refine WC.region ?_
          refine WL.val (.pointer (some ⟨b, o, none⟩)) rfl rfl rfl (fun za zC zh zk => wp_move rfl (zh.ev rfl) zk) ?_
          refine WL.val (.pointer (some ⟨b, o, none⟩)) rfl rfl rfl (fun za zC zh zk => nilCheck_ rfl (zh.ev rfl) zk) ?_
          refine WL.val (.pointer (some ⟨b, o + 1, none⟩)) rfl rfl rfl (fun za zC zh zk => fld_24_1 rfl (zh.ev rfl) zk) ?_
          refine WL.val (.slice a l.length c) rfl rfl rfl (fun za zC zh zk => ld_22 rfl (zh.ev rfl) (bkeeps hb5 _ _ hc2) zk) ?_
          refine WL.val (.int .i64 (((k : Nat) : Int))) rfl rfl rfl (fun za zC zh zk => wp_move rfl (zh.ev rfl) zk) ?_
          obtain ⟨b7, o8, A9, C10, ha11, hc12⟩ := IsTs.open hl
          refine WL.val (.pointer (some ⟨b7, o8 + k * 2, none⟩)) rfl rfl rfl (fun za zC zh zk => ix_22 (k := k) rfl (zh.ev rfl) (ha11 k (by first | omega | (simp; omega))) (zh.ev rfl) (by first | omega | (simp; omega)) zk) ?_
          refine WL.call rfl rfl rfl (fun za zh zC => wp_call (by kernel_rfl) rfl (hv1 (zh.ev rfl))) (ih _ (tget_mem (by omega)) _ _ (size_at (by omega) hz) (IsTp.of (bkeeps hb5 _ _ (hc12 k (by first | omega | (simp; omega))).1) (bkeeps hb5 _ _ (hc12 k (by first | omega | (simp; omega))).2.1) (IsT.below hb5 (hc12 k (by first | omega | (simp; omega))).2.2))) ?_
          rintro _ w14 ⟨rfl, hq13⟩
          refine WL.val (.bool ((!(tget l k).plain))) rfl rfl rfl (fun za zC zh zk => wp_not rfl (zh.ev rfl) zk) ?_
          refine WL.nil (WE.sub (K' := [(0, .pointer (some ⟨b, o, none⟩)), (3, .int .i64 (((k : Nat) : Int))), (16, .bool (((decide ((f : Int) < (0 : Int))) && (decide ((0 : Int) < (((l.length : Nat) : Int) : Int)))))), (21, .int .i64 (((l.length : Nat) : Int))), (22, .int .i64 (((k : Nat) : Int))), (23, .bool ((decide ((((k : Nat) : Int) : Int) < (((l.length : Nat) : Int) : Int))))), (32, .bool ((!(tget l k).plain)))]) ⟨rfl, rfl, rfl, rfl, rfl, rfl, rfl, trivial⟩ ?_)
          refine WE.next ?_
          refine WC.cond rfl (fun h15 => ?_) (fun h15 => ?_)
          · have h15 : ¬ ((tget l k).plain = true) := by simpa using h15
            refine WC.seq ?_
            refine WC.region ?_
            refine WL.val (.bool false) rfl rfl rfl (fun za zC zh zk => wp_assign rfl (zh.ev rfl) zk) ?_
            refine WL.nil (WE.sub (K' := [(0, .pointer (some ⟨b, o, none⟩)), (2, .bool false), (3, .int .i64 (((k : Nat) : Int))), (16, .bool (((decide ((f : Int) < (0 : Int))) && (decide ((0 : Int) < (((l.length : Nat) : Int) : Int)))))), (21, .int .i64 (((l.length : Nat) : Int))), (22, .int .i64 (((k : Nat) : Int))), (23, .bool ((decide ((((k : Nat) : Int) : Int) < (((l.length : Nat) : Int) : Int))))), (32, .bool ((!(tget l k).plain)))]) ⟨rfl, rfl, rfl, rfl, rfl, rfl, rfl, rfl, trivial⟩ ?_)
            refine WE.next ?_
            refine WC.ret ?_
            refine WE.blockRet ?_
            refine WE.thenRet ?_
            refine WE.thenRet ?_
            refine WE.blockRet ?_
            refine WE.thenRet ?_
            refine WE.ret1 rfl rfl ?_
            have hb16 : Below w.heap.size w w14 := (bstep hb5 hq13)
            exact ⟨_, rfl, congrArg Value.bool (Eq.symm (plain_no (k := k) (by omega) (by simpa using h15))), hb16⟩
          · have h15 : ¬ (¬ ((tget l k).plain = true)) := by simpa using h15
            refine WC.skip ?_
            refine WE.blockNormal ?_
            refine WE.next ?_
            refine WC.region ?_
            refine WL.val (.int .i64 ((((k + 1) : Nat) : Int))) rfl rfl rfl (fun za zC zh zk => addb_3 rfl (zh.ev rfl) (zh.ev rfl) (wrap_eq (by omega) (by omega) (by omega)) zk) ?_
            refine WL.val (.int .i64 ((((k + 1) : Nat) : Int))) rfl rfl rfl (fun za zC zh zk => wp_move rfl (zh.ev rfl) zk) ?_
            refine WL.nil (WE.sub (K' := [(0, .pointer (some ⟨b, o, none⟩)), (3, .int .i64 (((k : Nat) : Int))), (16, .bool (((decide ((f : Int) < (0 : Int))) && (decide ((0 : Int) < (((l.length : Nat) : Int) : Int)))))), (21, .int .i64 (((l.length : Nat) : Int))), (22, .int .i64 ((((k + 1) : Nat) : Int))), (23, .bool ((decide ((((k : Nat) : Int) : Int) < (((l.length : Nat) : Int) : Int))))), (32, .bool ((!(tget l k).plain)))]) ⟨rfl, rfl, rfl, rfl, rfl, rfl, rfl, trivial⟩ ?_)
            refine WE.round (k + 1) ⟨rfl, rfl, rfl, rfl, trivial⟩ ?_ ?_
            · have hb17 : Below w.heap.size w w14 := (bstep hb5 hq13)
              exact ⟨by omega, fun i hi => by rcases Nat.lt_or_ge i k with q | q; exact hE i q; (obtain rfl : i = k := by omega); simpa using h15, hb17⟩
            · omega
        · have h6 : ¬ ((((k : Nat) : Int) : Int) < (((l.length : Nat) : Int) : Int)) := by simpa using h6
          refine WC.exit ?_
          refine WE.thenExit ?_
          refine WE.thenExit ?_
          refine WE.blockIs rfl ?_
          refine WE.next ?_
          refine WC.seq ?_
          refine WC.region ?_
          refine WL.val (.bool true) rfl rfl rfl (fun za zC zh zk => wp_assign rfl (zh.ev rfl) zk) ?_
          refine WL.nil (WE.sub (K' := [(0, .pointer (some ⟨b, o, none⟩)), (2, .bool true), (16, .bool (((decide ((f : Int) < (0 : Int))) && (decide ((0 : Int) < (((l.length : Nat) : Int) : Int)))))), (21, .int .i64 (((l.length : Nat) : Int))), (22, .int .i64 (((k : Nat) : Int))), (23, .bool ((decide ((((k : Nat) : Int) : Int) < (((l.length : Nat) : Int) : Int)))))]) ⟨rfl, rfl, rfl, rfl, rfl, rfl, trivial⟩ ?_)
          refine WE.next ?_
          refine WC.ret ?_
          refine WE.ret1 rfl rfl ?_
          exact ⟨_, rfl, congrArg Value.bool (Eq.symm (plain_yes (by omega) (fun i hi => hE i (by omega)))), hb5⟩

set_option maxRecDepth 100000 in
theorem rplain_any : ∀ (t : T) (w : World) (v : Value), t.size ≤ 4294967296 → IsT w t v → Calls Try.prog 36 #[v] w (Ret fun v' w' => v' = .bool t.plain ∧ Below w.heap.size w w') := by
  refine T.ind (fun f l ih => ?_)
  intro w v hz hv
  have hlen := len_le_sizeL l
  have hz' := hz
  simp only [T.size] at hz'
  obtain ⟨hf, a, c, rfl, hc, hm, hl⟩ := hv
  refine Calls.walk (l := [.agg #[.int .i64 f, .slice a l.length c]]) Try.func36 rfl (by kernel_rfl) ?_
  refine WC.sub (K' := [(0, .agg #[.int .i64 f, .slice a l.length c])]) ⟨rfl, trivial⟩ ?_
  refine WC.seq ?_
  refine WC.region ?_
  refine WL.step (post := NewBlk w 24 #[.int .i64 f, .slice a l.length c]) rfl rfl rfl (fun za zC zh zk => box_24 rfl (zh.ev rfl) (zk _ _ (newBlk _ _ _))) ?_
  rintro _ w1 ⟨g2, rfl, hg3, hB4, hb5, hz6⟩
  have hl7 : w.heap.size ≤ g2 := by omega
  refine WL.val (.bool false) rfl rfl rfl (fun za zC zh zk => wp_assign rfl (zh.ev rfl) zk) ?_
  refine WL.nil (WE.sub (K' := [(0, .agg #[.int .i64 f, .slice a l.length c]), (1, .pointer (some ⟨g2, 0, none⟩)), (2, .bool false)]) ⟨rfl, rfl, rfl, trivial⟩ ?_)
  refine WE.next ?_
  refine WC.seq ?_
  refine WC.seq ?_
  refine WC.opt [(true, .val (.pointer (some ⟨g2, 0, none⟩))), (true, .val (.int .i64 f)), (true, .val (.bool ((decide ((f : Int) < (0 : Int)))))), (true, .val (.bool ((decide ((f : Int) < (0 : Int)))))), ((true && (decide ((f : Int) < (0 : Int)))), .val (.pointer (some ⟨g2, 1, none⟩))), ((true && (decide ((f : Int) < (0 : Int)))), .val (.slice a l.length c)), ((true && (decide ((f : Int) < (0 : Int)))), .val (.int .i64 (((l.length : Nat) : Int)))), ((true && (decide ((f : Int) < (0 : Int)))), .val (.bool ((decide ((0 : Int) < (((l.length : Nat) : Int) : Int)))))), (true, .val (.bool (((decide ((f : Int) < (0 : Int))) && (decide ((0 : Int) < (((l.length : Nat) : Int) : Int)))))))] [(0, .agg #[.int .i64 f, .slice a l.length c]), (1, .pointer (some ⟨g2, 0, none⟩)), (2, .bool false)] ⟨rfl, rfl, rfl, trivial⟩ (by kernel_rfl) (by kernel_rfl) (by kernel_rfl) ?_ ?_
  · refine ⟨⟨true, .none rfl, fun h w => optUndef h, fun zβ za zw zc => ?_⟩, ?_⟩
    · exact fld_24_0 rfl (zc.kn.ev rfl) ⟨_, rfl, Below.refl _ _, optDef zβ rfl⟩
    refine ⟨⟨true, .none rfl, fun h w => optUndef h, fun zβ za zw zc => ?_⟩, ?_⟩
    · exact ld_3 rfl ((show za.eval (.tmp 4) = za.tmps.getD 4 undef from rfl).trans (optVal (zc.dep 0 4 (by kernel_rfl)) rfl rfl)) (bkeeps zc.below _ _ ((hB4.cell 0).trans rfl)) ⟨_, rfl, Below.refl _ _, optDef zβ rfl⟩
    refine ⟨⟨true, .none rfl, fun h w => optUndef h, fun zβ za zw zc => ?_⟩, ?_⟩
    · exact lss_3 rfl ((show za.eval (.tmp 5) = za.tmps.getD 5 undef from rfl).trans (optVal (zc.dep 1 5 (by kernel_rfl)) rfl rfl)) (zc.kn.ev rfl) ⟨_, rfl, Below.refl _ _, optDef zβ rfl⟩
    refine ⟨⟨true, .none rfl, fun h w => optUndef h, fun zβ za zw zc => ?_⟩, ?_⟩
    · exact wp_move rfl ((show za.eval (.tmp 6) = za.tmps.getD 6 undef from rfl).trans (optVal (zc.dep 2 6 (by kernel_rfl)) rfl rfl)) ⟨_, rfl, Below.refl _ _, optDef zβ rfl⟩
    refine ⟨⟨(true && (decide ((f : Int) < (0 : Int)))), .yes (c := (decide ((f : Int) < (0 : Int)))) (d := true) rfl (fun v w h => h), fun h w => optUndef h, fun zβ za zw zc => ?_⟩, ?_⟩
    · exact fld_24_1 rfl (zc.kn.ev rfl) ⟨_, rfl, Below.refl _ _, optDef zβ rfl⟩
    refine ⟨⟨(true && (decide ((f : Int) < (0 : Int)))), .yes (c := (decide ((f : Int) < (0 : Int)))) (d := true) rfl (fun v w h => h), fun h w => optUndef h, fun zβ za zw zc => ?_⟩, ?_⟩
    · exact ld_22 rfl ((show za.eval (.tmp 8) = za.tmps.getD 8 undef from rfl).trans (optVal (zc.dep 4 8 (by kernel_rfl)) rfl zβ)) (bkeeps zc.below _ _ ((hB4.cell 1).trans rfl)) ⟨_, rfl, Below.refl _ _, optDef zβ rfl⟩
    refine ⟨⟨(true && (decide ((f : Int) < (0 : Int)))), .yes (c := (decide ((f : Int) < (0 : Int)))) (d := true) rfl (fun v w h => h), fun h w => optUndef h, fun zβ za zw zc => ?_⟩, ?_⟩
    · exact len_22 rfl ((show za.eval (.tmp 9) = za.tmps.getD 9 undef from rfl).trans (optVal (zc.dep 5 9 (by kernel_rfl)) rfl zβ)) ⟨_, rfl, Below.refl _ _, optDef zβ rfl⟩
    refine ⟨⟨(true && (decide ((f : Int) < (0 : Int)))), .yes (c := (decide ((f : Int) < (0 : Int)))) (d := true) rfl (fun v w h => h), fun h w => optUndef h, fun zβ za zw zc => ?_⟩, ?_⟩
    · exact gtr_3 rfl ((show za.eval (.tmp 10) = za.tmps.getD 10 undef from rfl).trans (optVal (zc.dep 6 10 (by kernel_rfl)) rfl zβ)) (zc.kn.ev rfl) ⟨_, rfl, Below.refl _ _, optDef zβ rfl⟩
    refine ⟨⟨true, .none rfl, fun h w => optUndef h, fun zβ za zw zc => ?_⟩, ?_⟩
    · exact wp_and rfl ((show za.eval (.tmp 7) = za.tmps.getD 7 undef from rfl).trans (optVal (zc.dep 3 7 (by kernel_rfl)) rfl rfl)) (fun hp => ((show za.eval (.tmp 11) = za.tmps.getD 11 undef from rfl).trans (optVal (zc.dep 7 11 (by kernel_rfl)) rfl (bMk zβ hp)))) ⟨_, rfl, Below.refl _ _, optDef zβ rfl⟩
    exact trivial
  · intro za w8 zh hb9 zu
    have zh := zh.cons (d := 12) (v := .bool (((decide ((f : Int) < (0 : Int))) && (decide ((0 : Int) < (((l.length : Nat) : Int) : Int)))))) (optVal (zu 8 12 (by kernel_rfl)) rfl rfl)
    clear zu
    refine (show WE _ [(0, .agg #[.int .i64 f, .slice a l.length c]), (1, .pointer (some ⟨g2, 0, none⟩)), (2, .bool false), (12, .bool (((decide ((f : Int) < (0 : Int))) && (decide ((0 : Int) < (((l.length : Nat) : Int) : Int))))))] w8 _ .normal from ?_) za (zh.sub ⟨rfl, rfl, rfl, rfl, trivial⟩)
    refine WE.next ?_
    refine WC.cond rfl (fun h10 => ?_) (fun h10 => ?_)
    · have h10 : ((f : Int) < (0 : Int)) ∧ ((0 : Int) < (((l.length : Nat) : Int) : Int)) := by simpa using h10
      refine WC.seq ?_
      refine WC.region ?_
      refine WL.val (.bool false) rfl rfl rfl (fun za zC zh zk => wp_assign rfl (zh.ev rfl) zk) ?_
      refine WL.nil (WE.sub (K' := [(0, .agg #[.int .i64 f, .slice a l.length c]), (1, .pointer (some ⟨g2, 0, none⟩)), (2, .bool false), (12, .bool (((decide ((f : Int) < (0 : Int))) && (decide ((0 : Int) < (((l.length : Nat) : Int) : Int))))))]) ⟨rfl, rfl, rfl, rfl, trivial⟩ ?_)
      refine WE.next ?_
      refine WC.ret ?_
      refine WE.thenRet ?_
      refine WE.ret1 rfl rfl ?_
      have hb11 : Below w.heap.size w w8 := (bstep hb5 hb9)
      have z := h10
      exact ⟨_, rfl, congrArg Value.bool (Eq.symm (plain_var (by omega) (by omega))), hb11⟩
    · have h10 : ¬ (((f : Int) < (0 : Int)) ∧ ((0 : Int) < (((l.length : Nat) : Int) : Int))) := by simpa using h10
      refine WC.skip ?_
      refine WE.next ?_
      refine WC.seq ?_
      refine WC.seq ?_
      refine WC.region ?_
      refine WL.val (.int .i64 0) rfl rfl rfl (fun za zC zh zk => wp_assign rfl (zh.ev rfl) zk) ?_
      refine WL.nil (WE.sub (K' := [(0, .agg #[.int .i64 f, .slice a l.length c]), (1, .pointer (some ⟨g2, 0, none⟩)), (2, .bool false), (3, .int .i64 0), (12, .bool (((decide ((f : Int) < (0 : Int))) && (decide ((0 : Int) < (((l.length : Nat) : Int) : Int))))))]) ⟨rfl, rfl, rfl, rfl, rfl, trivial⟩ ?_)
      refine WE.next ?_
      refine WC.block ?_
      refine WC.loop (X := Nat) (fun k => l.length - k) (fun k => [(0, .agg #[.int .i64 f, .slice a l.length c]), (1, .pointer (some ⟨g2, 0, none⟩)), (3, .int .i64 (((k : Nat) : Int))), (12, .bool (((decide ((f : Int) < (0 : Int))) && (decide ((0 : Int) < (((l.length : Nat) : Int) : Int))))))]) (fun k w12 => k ≤ l.length ∧ (∀ i, i < k → (tget l i).plain = true) ∧ Below w.heap.size w w12 ∧ Blk w12 g2 24 #[.int .i64 f, .slice a l.length c]) 0 ⟨rfl, rfl, rfl, rfl, trivial⟩ ?_ ?_
      · have hb13 : Below w.heap.size w w8 := (bstep hb5 hb9)
        have hB14 := hB4.below hb9
        exact ⟨Nat.zero_le _, fun i h => absurd h (Nat.not_lt_zero i), hb13, hB14⟩
      · rintro k w12 ⟨hk, hE, hb15, hB16⟩
        refine WC.seq ?_
        refine WC.seq ?_
        refine WC.region ?_
        refine WL.val (.int .i64 (((k : Nat) : Int))) rfl rfl rfl (fun za zC zh zk => wp_move rfl (zh.ev rfl) zk) ?_
        refine WL.val (.pointer (some ⟨g2, 1, none⟩)) rfl rfl rfl (fun za zC zh zk => fld_24_1 rfl (zh.ev rfl) zk) ?_
        refine WL.val (.slice a l.length c) rfl rfl rfl (fun za zC zh zk => ld_22 rfl (zh.ev rfl) ((hB16.cell 1).trans rfl) zk) ?_
        refine WL.val (.int .i64 (((l.length : Nat) : Int))) rfl rfl rfl (fun za zC zh zk => len_22 rfl (zh.ev rfl) zk) ?_
        refine WL.val (.bool ((decide ((((k : Nat) : Int) : Int) < (((l.length : Nat) : Int) : Int))))) rfl rfl rfl (fun za zC zh zk => lss_3 rfl (zh.ev rfl) (zh.ev rfl) zk) ?_
        refine WL.nil (WE.sub (K' := [(0, .agg #[.int .i64 f, .slice a l.length c]), (1, .pointer (some ⟨g2, 0, none⟩)), (3, .int .i64 (((k : Nat) : Int))), (12, .bool (((decide ((f : Int) < (0 : Int))) && (decide ((0 : Int) < (((l.length : Nat) : Int) : Int)))))), (17, .bool ((decide ((((k : Nat) : Int) : Int) < (((l.length : Nat) : Int) : Int)))))]) ⟨rfl, rfl, rfl, rfl, rfl, trivial⟩ ?_)
        refine WE.next ?_
        refine WC.cond rfl (fun h17 => ?_) (fun h17 => ?_)
        · have h17 : (((k : Nat) : Int) : Int) < (((l.length : Nat) : Int) : Int) := by simpa using h17
          refine WC.skip ?_
          refine WE.next ?_
          refine WC.seq ?_
          refine WC.block ?_
          refine WC.seq ?_
          refine WC.region ?_
          refine WL.val (.pointer (some ⟨g2, 1, none⟩)) rfl rfl rfl (fun za zC zh zk => fld_24_1 rfl (zh.ev rfl) zk) ?_
          refine WL.val (.slice a l.length c) rfl rfl rfl (fun za zC zh zk => ld_22 rfl (zh.ev rfl) ((hB16.cell 1).trans rfl) zk) ?_
          refine WL.val (.int .i64 (((k : Nat) : Int))) rfl rfl rfl (fun za zC zh zk => wp_move rfl (zh.ev rfl) zk) ?_
          obtain ⟨b18, o19, A20, C21, ha22, hc23⟩ := IsTs.open hl
          refine WL.val (.pointer (some ⟨b18, o19 + k * 2, none⟩)) rfl rfl rfl (fun za zC zh zk => ix_22 (k := k) rfl (zh.ev rfl) (ha22 k (by first | omega | (simp; omega))) (zh.ev rfl) (by first | omega | (simp; omega)) zk) ?_
          refine WL.val (.agg #[.int .i64 ((tget l k).f), .slice ((A20 k)) ((tget l k).args.length) ((C21 k))]) rfl rfl rfl (fun za zC zh zk => ld_24 rfl (zh.ev rfl) (bkeeps hb15 _ _ (hc23 k (by first | omega | (simp; omega))).1) (bkeeps hb15 _ _ (hc23 k (by first | omega | (simp; omega))).2.1) zk) ?_
          refine WL.call rfl rfl rfl (fun za zh zC => wp_call (by kernel_rfl) rfl (hv1 (zh.ev rfl))) (ih _ (tget_mem (by omega)) _ _ (size_at (by omega) hz) (IsT.below hb15 (hc23 k (by first | omega | (simp; omega))).2.2)) ?_
          rintro _ w25 ⟨rfl, hq24⟩
          refine WL.val (.bool ((!(tget l k).plain))) rfl rfl rfl (fun za zC zh zk => wp_not rfl (zh.ev rfl) zk) ?_
          refine WL.nil (WE.sub (K' := [(0, .agg #[.int .i64 f, .slice a l.length c]), (1, .pointer (some ⟨g2, 0, none⟩)), (3, .int .i64 (((k : Nat) : Int))), (12, .bool (((decide ((f : Int) < (0 : Int))) && (decide ((0 : Int) < (((l.length : Nat) : Int) : Int)))))), (17, .bool ((decide ((((k : Nat) : Int) : Int) < (((l.length : Nat) : Int) : Int))))), (26, .bool ((!(tget l k).plain)))]) ⟨rfl, rfl, rfl, rfl, rfl, rfl, trivial⟩ ?_)
          refine WE.next ?_
          refine WC.cond rfl (fun h26 => ?_) (fun h26 => ?_)
          · have h26 : ¬ ((tget l k).plain = true) := by simpa using h26
            refine WC.seq ?_
            refine WC.region ?_
            refine WL.val (.bool false) rfl rfl rfl (fun za zC zh zk => wp_assign rfl (zh.ev rfl) zk) ?_
            refine WL.nil (WE.sub (K' := [(0, .agg #[.int .i64 f, .slice a l.length c]), (1, .pointer (some ⟨g2, 0, none⟩)), (2, .bool false), (3, .int .i64 (((k : Nat) : Int))), (12, .bool (((decide ((f : Int) < (0 : Int))) && (decide ((0 : Int) < (((l.length : Nat) : Int) : Int)))))), (17, .bool ((decide ((((k : Nat) : Int) : Int) < (((l.length : Nat) : Int) : Int))))), (26, .bool ((!(tget l k).plain)))]) ⟨rfl, rfl, rfl, rfl, rfl, rfl, rfl, trivial⟩ ?_)
            refine WE.next ?_
            refine WC.ret ?_
            refine WE.blockRet ?_
            refine WE.thenRet ?_
            refine WE.thenRet ?_
            refine WE.blockRet ?_
            refine WE.thenRet ?_
            refine WE.ret1 rfl rfl ?_
            have hb27 : Below w.heap.size w w25 := (bstep hb15 hq24)
            exact ⟨_, rfl, congrArg Value.bool (Eq.symm (plain_no (k := k) (by omega) (by simpa using h26))), hb27⟩
          · have h26 : ¬ (¬ ((tget l k).plain = true)) := by simpa using h26
            refine WC.skip ?_
            refine WE.blockNormal ?_
            refine WE.next ?_
            refine WC.region ?_
            refine WL.val (.int .i64 (((k : Nat) : Int))) rfl rfl rfl (fun za zC zh zk => wp_move rfl (zh.ev rfl) zk) ?_
            refine WL.val (.int .i64 ((((k + 1) : Nat) : Int))) rfl rfl rfl (fun za zC zh zk => addb_3 rfl (zh.ev rfl) (zh.ev rfl) (wrap_eq (by omega) (by omega) (by omega)) zk) ?_
            refine WL.val (.int .i64 ((((k + 1) : Nat) : Int))) rfl rfl rfl (fun za zC zh zk => wp_assign rfl (zh.ev rfl) zk) ?_
            refine WL.nil (WE.sub (K' := [(0, .agg #[.int .i64 f, .slice a l.length c]), (1, .pointer (some ⟨g2, 0, none⟩)), (3, .int .i64 ((((k + 1) : Nat) : Int))), (12, .bool (((decide ((f : Int) < (0 : Int))) && (decide ((0 : Int) < (((l.length : Nat) : Int) : Int)))))), (17, .bool ((decide ((((k : Nat) : Int) : Int) < (((l.length : Nat) : Int) : Int))))), (26, .bool ((!(tget l k).plain)))]) ⟨rfl, rfl, rfl, rfl, rfl, rfl, trivial⟩ ?_)
            refine WE.round (k + 1) ⟨rfl, rfl, rfl, rfl, trivial⟩ ?_ ?_
            · have hb28 : Below w.heap.size w w25 := (bstep hb15 hq24)
              have hB29 := hB16.below hq24
              exact ⟨by omega, fun i hi => by rcases Nat.lt_or_ge i k with q | q; exact hE i q; (obtain rfl : i = k := by omega); simpa using h26, hb28, hB29⟩
            · omega
        · have h17 : ¬ ((((k : Nat) : Int) : Int) < (((l.length : Nat) : Int) : Int)) := by simpa using h17
          refine WC.exit ?_
          refine WE.thenExit ?_
          refine WE.thenExit ?_
          refine WE.blockIs rfl ?_
          refine WE.next ?_
          refine WC.seq ?_
          refine WC.region ?_
          refine WL.val (.bool true) rfl rfl rfl (fun za zC zh zk => wp_assign rfl (zh.ev rfl) zk) ?_
          refine WL.nil (WE.sub (K' := [(0, .agg #[.int .i64 f, .slice a l.length c]), (1, .pointer (some ⟨g2, 0, none⟩)), (2, .bool true), (3, .int .i64 (((k : Nat) : Int))), (12, .bool (((decide ((f : Int) < (0 : Int))) && (decide ((0 : Int) < (((l.length : Nat) : Int) : Int)))))), (17, .bool ((decide ((((k : Nat) : Int) : Int) < (((l.length : Nat) : Int) : Int)))))]) ⟨rfl, rfl, rfl, rfl, rfl, rfl, trivial⟩ ?_)
          refine WE.next ?_
          refine WC.ret ?_
          refine WE.ret1 rfl rfl ?_
          exact ⟨_, rfl, congrArg Value.bool (Eq.symm (plain_yes (by omega) (fun i hi => hE i (by omega)))), hb15⟩

def T.top (t : T) : Bool := decide (t.f = 0) && decide (t.args.length = 0)
def Li.atom (x : Li) : Bool := x.l.top || x.r.top
set_option maxRecDepth 100000 in
theorem ratom_any (x : Li) (w : World) (v : Value) (hv : IsLi w x v) : Calls Try.prog 39 #[v] w (Ret fun v' w' => v' = .bool x.atom ∧ Below w.heap.size w w') := by
  obtain ⟨a1, a2, c1, c2, rfl, hl, hr⟩ := hv.form
  refine Calls.walk (l := [.agg #[.bool x.neg, .int .i64 x.l.f, .slice a1 x.l.args.length c1, .int .i64 x.r.f, .slice a2 x.r.args.length c2]]) Try.func39 rfl (by kernel_rfl) ?_
  refine WC.sub (K' := [(0, .agg #[.bool x.neg, .int .i64 x.l.f, .slice a1 x.l.args.length c1, .int .i64 x.r.f, .slice a2 x.r.args.length c2])]) ⟨rfl, trivial⟩ ?_
  refine WC.seq ?_
  refine WC.region ?_
  refine WL.step (post := NewBlk w 41 #[.bool x.neg, .int .i64 x.l.f, .slice a1 x.l.args.length c1, .int .i64 x.r.f, .slice a2 x.r.args.length c2]) rfl rfl rfl (fun za zC zh zk => box_41 rfl (zh.ev rfl) (zk _ _ (newBlk _ _ _))) ?_
  rintro _ w1 ⟨g2, rfl, hg3, hB4, hb5, hz6⟩
  have hl7 : w.heap.size ≤ g2 := by omega
  refine WL.val (.bool false) rfl rfl rfl (fun za zC zh zk => wp_assign rfl (zh.ev rfl) zk) ?_
  refine WL.nil (WE.sub (K' := [(0, .agg #[.bool x.neg, .int .i64 x.l.f, .slice a1 x.l.args.length c1, .int .i64 x.r.f, .slice a2 x.r.args.length c2]), (1, .pointer (some ⟨g2, 0, none⟩)), (2, .bool false)]) ⟨rfl, rfl, rfl, trivial⟩ ?_)
  refine WE.next ?_
  refine WC.seq ?_
  refine WC.opt [(true, .val (.pointer (some ⟨g2, 1, none⟩))), (true, .val (.pointer (some ⟨g2, 1, none⟩))), (true, .val (.int .i64 x.l.f)), (true, .val (.bool (((x.l.f : Int) == (0 : Int))))), (true, .val (.bool (((x.l.f : Int) == (0 : Int))))), ((true && ((x.l.f : Int) == (0 : Int))), .val (.pointer (some ⟨g2, 1, none⟩))), ((true && ((x.l.f : Int) == (0 : Int))), .val (.pointer (some ⟨g2, 2, none⟩))), ((true && ((x.l.f : Int) == (0 : Int))), .val (.slice a1 x.l.args.length c1)), ((true && ((x.l.f : Int) == (0 : Int))), .val (.int .i64 (((x.l.args.length : Nat) : Int)))), ((true && ((x.l.f : Int) == (0 : Int))), .val (.bool (((((x.l.args.length : Nat) : Int) : Int) == (0 : Int))))), (true, .val (.bool ((((x.l.f : Int) == (0 : Int)) && ((((x.l.args.length : Nat) : Int) : Int) == (0 : Int)))))), (true, .val (.bool ((((x.l.f : Int) == (0 : Int)) && ((((x.l.args.length : Nat) : Int) : Int) == (0 : Int)))))), ((true && !(((x.l.f : Int) == (0 : Int)) && ((((x.l.args.length : Nat) : Int) : Int) == (0 : Int)))), .val (.pointer (some ⟨g2, 3, none⟩))), ((true && !(((x.l.f : Int) == (0 : Int)) && ((((x.l.args.length : Nat) : Int) : Int) == (0 : Int)))), .val (.pointer (some ⟨g2, 3, none⟩))), ((true && !(((x.l.f : Int) == (0 : Int)) && ((((x.l.args.length : Nat) : Int) : Int) == (0 : Int)))), .val (.int .i64 x.r.f)), ((true && !(((x.l.f : Int) == (0 : Int)) && ((((x.l.args.length : Nat) : Int) : Int) == (0 : Int)))), .val (.bool (((x.r.f : Int) == (0 : Int))))), ((true && !(((x.l.f : Int) == (0 : Int)) && ((((x.l.args.length : Nat) : Int) : Int) == (0 : Int)))), .val (.bool (((x.r.f : Int) == (0 : Int))))), (((true && !(((x.l.f : Int) == (0 : Int)) && ((((x.l.args.length : Nat) : Int) : Int) == (0 : Int)))) && ((x.r.f : Int) == (0 : Int))), .val (.pointer (some ⟨g2, 3, none⟩))), (((true && !(((x.l.f : Int) == (0 : Int)) && ((((x.l.args.length : Nat) : Int) : Int) == (0 : Int)))) && ((x.r.f : Int) == (0 : Int))), .val (.pointer (some ⟨g2, 4, none⟩))), (((true && !(((x.l.f : Int) == (0 : Int)) && ((((x.l.args.length : Nat) : Int) : Int) == (0 : Int)))) && ((x.r.f : Int) == (0 : Int))), .val (.slice a2 x.r.args.length c2)), (((true && !(((x.l.f : Int) == (0 : Int)) && ((((x.l.args.length : Nat) : Int) : Int) == (0 : Int)))) && ((x.r.f : Int) == (0 : Int))), .val (.int .i64 (((x.r.args.length : Nat) : Int)))), (((true && !(((x.l.f : Int) == (0 : Int)) && ((((x.l.args.length : Nat) : Int) : Int) == (0 : Int)))) && ((x.r.f : Int) == (0 : Int))), .val (.bool (((((x.r.args.length : Nat) : Int) : Int) == (0 : Int))))), ((true && !(((x.l.f : Int) == (0 : Int)) && ((((x.l.args.length : Nat) : Int) : Int) == (0 : Int)))), .val (.bool ((((x.r.f : Int) == (0 : Int)) && ((((x.r.args.length : Nat) : Int) : Int) == (0 : Int)))))), (true, .val (.bool (((((x.l.f : Int) == (0 : Int)) && ((((x.l.args.length : Nat) : Int) : Int) == (0 : Int))) || (((x.r.f : Int) == (0 : Int)) && ((((x.r.args.length : Nat) : Int) : Int) == (0 : Int))))))), (true, .val (.bool (((((x.l.f : Int) == (0 : Int)) && ((((x.l.args.length : Nat) : Int) : Int) == (0 : Int))) || (((x.r.f : Int) == (0 : Int)) && ((((x.r.args.length : Nat) : Int) : Int) == (0 : Int)))))))] [(0, .agg #[.bool x.neg, .int .i64 x.l.f, .slice a1 x.l.args.length c1, .int .i64 x.r.f, .slice a2 x.r.args.length c2]), (1, .pointer (some ⟨g2, 0, none⟩))] ⟨rfl, rfl, trivial⟩ (by kernel_rfl) (by kernel_rfl) (by kernel_rfl) ?_ ?_
  · refine ⟨⟨true, .none rfl, fun h w => optUndef h, fun zβ za zw zc => ?_⟩, ?_⟩
    · exact fld_41_1 rfl (zc.kn.ev rfl) ⟨_, rfl, Below.refl _ _, optDef zβ rfl⟩
    refine ⟨⟨true, .none rfl, fun h w => optUndef h, fun zβ za zw zc => ?_⟩, ?_⟩
    · exact fld_24_0 rfl ((show za.eval (.tmp 3) = za.tmps.getD 3 undef from rfl).trans (optVal (zc.dep 0 3 (by kernel_rfl)) rfl rfl)) ⟨_, rfl, Below.refl _ _, optDef zβ rfl⟩
    refine ⟨⟨true, .none rfl, fun h w => optUndef h, fun zβ za zw zc => ?_⟩, ?_⟩
    · exact ld_3 rfl ((show za.eval (.tmp 4) = za.tmps.getD 4 undef from rfl).trans (optVal (zc.dep 1 4 (by kernel_rfl)) rfl rfl)) (bkeeps zc.below _ _ ((hB4.cell 1).trans rfl)) ⟨_, rfl, Below.refl _ _, optDef zβ rfl⟩
    refine ⟨⟨true, .none rfl, fun h w => optUndef h, fun zβ za zw zc => ?_⟩, ?_⟩
    · exact eql_3 rfl ((show za.eval (.tmp 5) = za.tmps.getD 5 undef from rfl).trans (optVal (zc.dep 2 5 (by kernel_rfl)) rfl rfl)) (zc.kn.ev rfl) ⟨_, rfl, Below.refl _ _, optDef zβ rfl⟩
    refine ⟨⟨true, .none rfl, fun h w => optUndef h, fun zβ za zw zc => ?_⟩, ?_⟩
    · exact wp_move rfl ((show za.eval (.tmp 6) = za.tmps.getD 6 undef from rfl).trans (optVal (zc.dep 3 6 (by kernel_rfl)) rfl rfl)) ⟨_, rfl, Below.refl _ _, optDef zβ rfl⟩
    refine ⟨⟨(true && ((x.l.f : Int) == (0 : Int))), .yes (c := ((x.l.f : Int) == (0 : Int))) (d := true) rfl (fun v w h => h), fun h w => optUndef h, fun zβ za zw zc => ?_⟩, ?_⟩
    · exact fld_41_1 rfl (zc.kn.ev rfl) ⟨_, rfl, Below.refl _ _, optDef zβ rfl⟩
    refine ⟨⟨(true && ((x.l.f : Int) == (0 : Int))), .yes (c := ((x.l.f : Int) == (0 : Int))) (d := true) rfl (fun v w h => h), fun h w => optUndef h, fun zβ za zw zc => ?_⟩, ?_⟩
    · exact fld_24_1 rfl ((show za.eval (.tmp 8) = za.tmps.getD 8 undef from rfl).trans (optVal (zc.dep 5 8 (by kernel_rfl)) rfl zβ)) ⟨_, rfl, Below.refl _ _, optDef zβ rfl⟩
    refine ⟨⟨(true && ((x.l.f : Int) == (0 : Int))), .yes (c := ((x.l.f : Int) == (0 : Int))) (d := true) rfl (fun v w h => h), fun h w => optUndef h, fun zβ za zw zc => ?_⟩, ?_⟩
    · exact ld_22 rfl ((show za.eval (.tmp 9) = za.tmps.getD 9 undef from rfl).trans (optVal (zc.dep 6 9 (by kernel_rfl)) rfl zβ)) (bkeeps zc.below _ _ ((hB4.cell 2).trans rfl)) ⟨_, rfl, Below.refl _ _, optDef zβ rfl⟩
    refine ⟨⟨(true && ((x.l.f : Int) == (0 : Int))), .yes (c := ((x.l.f : Int) == (0 : Int))) (d := true) rfl (fun v w h => h), fun h w => optUndef h, fun zβ za zw zc => ?_⟩, ?_⟩
    · exact len_22 rfl ((show za.eval (.tmp 10) = za.tmps.getD 10 undef from rfl).trans (optVal (zc.dep 7 10 (by kernel_rfl)) rfl zβ)) ⟨_, rfl, Below.refl _ _, optDef zβ rfl⟩
    refine ⟨⟨(true && ((x.l.f : Int) == (0 : Int))), .yes (c := ((x.l.f : Int) == (0 : Int))) (d := true) rfl (fun v w h => h), fun h w => optUndef h, fun zβ za zw zc => ?_⟩, ?_⟩
    · exact eql_3 rfl ((show za.eval (.tmp 11) = za.tmps.getD 11 undef from rfl).trans (optVal (zc.dep 8 11 (by kernel_rfl)) rfl zβ)) (zc.kn.ev rfl) ⟨_, rfl, Below.refl _ _, optDef zβ rfl⟩
    refine ⟨⟨true, .none rfl, fun h w => optUndef h, fun zβ za zw zc => ?_⟩, ?_⟩
    · exact wp_and rfl ((show za.eval (.tmp 7) = za.tmps.getD 7 undef from rfl).trans (optVal (zc.dep 4 7 (by kernel_rfl)) rfl rfl)) (fun hp => ((show za.eval (.tmp 12) = za.tmps.getD 12 undef from rfl).trans (optVal (zc.dep 9 12 (by kernel_rfl)) rfl (bMk zβ hp)))) ⟨_, rfl, Below.refl _ _, optDef zβ rfl⟩
    refine ⟨⟨true, .none rfl, fun h w => optUndef h, fun zβ za zw zc => ?_⟩, ?_⟩
    · exact wp_move rfl ((show za.eval (.tmp 13) = za.tmps.getD 13 undef from rfl).trans (optVal (zc.dep 10 13 (by kernel_rfl)) rfl rfl)) ⟨_, rfl, Below.refl _ _, optDef zβ rfl⟩
    refine ⟨⟨(true && !(((x.l.f : Int) == (0 : Int)) && ((((x.l.args.length : Nat) : Int) : Int) == (0 : Int)))), .no (c := (((x.l.f : Int) == (0 : Int)) && ((((x.l.args.length : Nat) : Int) : Int) == (0 : Int)))) (d := true) rfl (fun v w h => h), fun h w => optUndef h, fun zβ za zw zc => ?_⟩, ?_⟩
    · exact fld_41_2 rfl (zc.kn.ev rfl) ⟨_, rfl, Below.refl _ _, optDef zβ rfl⟩
    refine ⟨⟨(true && !(((x.l.f : Int) == (0 : Int)) && ((((x.l.args.length : Nat) : Int) : Int) == (0 : Int)))), .no (c := (((x.l.f : Int) == (0 : Int)) && ((((x.l.args.length : Nat) : Int) : Int) == (0 : Int)))) (d := true) rfl (fun v w h => h), fun h w => optUndef h, fun zβ za zw zc => ?_⟩, ?_⟩
    · exact fld_24_0 rfl ((show za.eval (.tmp 15) = za.tmps.getD 15 undef from rfl).trans (optVal (zc.dep 12 15 (by kernel_rfl)) rfl zβ)) ⟨_, rfl, Below.refl _ _, optDef zβ rfl⟩
    refine ⟨⟨(true && !(((x.l.f : Int) == (0 : Int)) && ((((x.l.args.length : Nat) : Int) : Int) == (0 : Int)))), .no (c := (((x.l.f : Int) == (0 : Int)) && ((((x.l.args.length : Nat) : Int) : Int) == (0 : Int)))) (d := true) rfl (fun v w h => h), fun h w => optUndef h, fun zβ za zw zc => ?_⟩, ?_⟩
    · exact ld_3 rfl ((show za.eval (.tmp 16) = za.tmps.getD 16 undef from rfl).trans (optVal (zc.dep 13 16 (by kernel_rfl)) rfl zβ)) (bkeeps zc.below _ _ ((hB4.cell 3).trans rfl)) ⟨_, rfl, Below.refl _ _, optDef zβ rfl⟩
    refine ⟨⟨(true && !(((x.l.f : Int) == (0 : Int)) && ((((x.l.args.length : Nat) : Int) : Int) == (0 : Int)))), .no (c := (((x.l.f : Int) == (0 : Int)) && ((((x.l.args.length : Nat) : Int) : Int) == (0 : Int)))) (d := true) rfl (fun v w h => h), fun h w => optUndef h, fun zβ za zw zc => ?_⟩, ?_⟩
    · exact eql_3 rfl ((show za.eval (.tmp 17) = za.tmps.getD 17 undef from rfl).trans (optVal (zc.dep 14 17 (by kernel_rfl)) rfl zβ)) (zc.kn.ev rfl) ⟨_, rfl, Below.refl _ _, optDef zβ rfl⟩
    refine ⟨⟨(true && !(((x.l.f : Int) == (0 : Int)) && ((((x.l.args.length : Nat) : Int) : Int) == (0 : Int)))), .no (c := (((x.l.f : Int) == (0 : Int)) && ((((x.l.args.length : Nat) : Int) : Int) == (0 : Int)))) (d := true) rfl (fun v w h => h), fun h w => optUndef h, fun zβ za zw zc => ?_⟩, ?_⟩
    · exact wp_move rfl ((show za.eval (.tmp 18) = za.tmps.getD 18 undef from rfl).trans (optVal (zc.dep 15 18 (by kernel_rfl)) rfl zβ)) ⟨_, rfl, Below.refl _ _, optDef zβ rfl⟩
    refine ⟨⟨((true && !(((x.l.f : Int) == (0 : Int)) && ((((x.l.args.length : Nat) : Int) : Int) == (0 : Int)))) && ((x.r.f : Int) == (0 : Int))), .yes (c := ((x.r.f : Int) == (0 : Int))) (d := (true && !(((x.l.f : Int) == (0 : Int)) && ((((x.l.args.length : Nat) : Int) : Int) == (0 : Int))))) rfl (fun v w h => h), fun h w => optUndef h, fun zβ za zw zc => ?_⟩, ?_⟩
    · exact fld_41_2 rfl (zc.kn.ev rfl) ⟨_, rfl, Below.refl _ _, optDef zβ rfl⟩
    refine ⟨⟨((true && !(((x.l.f : Int) == (0 : Int)) && ((((x.l.args.length : Nat) : Int) : Int) == (0 : Int)))) && ((x.r.f : Int) == (0 : Int))), .yes (c := ((x.r.f : Int) == (0 : Int))) (d := (true && !(((x.l.f : Int) == (0 : Int)) && ((((x.l.args.length : Nat) : Int) : Int) == (0 : Int))))) rfl (fun v w h => h), fun h w => optUndef h, fun zβ za zw zc => ?_⟩, ?_⟩
    · exact fld_24_1 rfl ((show za.eval (.tmp 20) = za.tmps.getD 20 undef from rfl).trans (optVal (zc.dep 17 20 (by kernel_rfl)) rfl zβ)) ⟨_, rfl, Below.refl _ _, optDef zβ rfl⟩
    refine ⟨⟨((true && !(((x.l.f : Int) == (0 : Int)) && ((((x.l.args.length : Nat) : Int) : Int) == (0 : Int)))) && ((x.r.f : Int) == (0 : Int))), .yes (c := ((x.r.f : Int) == (0 : Int))) (d := (true && !(((x.l.f : Int) == (0 : Int)) && ((((x.l.args.length : Nat) : Int) : Int) == (0 : Int))))) rfl (fun v w h => h), fun h w => optUndef h, fun zβ za zw zc => ?_⟩, ?_⟩
    · exact ld_22 rfl ((show za.eval (.tmp 21) = za.tmps.getD 21 undef from rfl).trans (optVal (zc.dep 18 21 (by kernel_rfl)) rfl zβ)) (bkeeps zc.below _ _ ((hB4.cell 4).trans rfl)) ⟨_, rfl, Below.refl _ _, optDef zβ rfl⟩
    refine ⟨⟨((true && !(((x.l.f : Int) == (0 : Int)) && ((((x.l.args.length : Nat) : Int) : Int) == (0 : Int)))) && ((x.r.f : Int) == (0 : Int))), .yes (c := ((x.r.f : Int) == (0 : Int))) (d := (true && !(((x.l.f : Int) == (0 : Int)) && ((((x.l.args.length : Nat) : Int) : Int) == (0 : Int))))) rfl (fun v w h => h), fun h w => optUndef h, fun zβ za zw zc => ?_⟩, ?_⟩
    · exact len_22 rfl ((show za.eval (.tmp 22) = za.tmps.getD 22 undef from rfl).trans (optVal (zc.dep 19 22 (by kernel_rfl)) rfl zβ)) ⟨_, rfl, Below.refl _ _, optDef zβ rfl⟩
    refine ⟨⟨((true && !(((x.l.f : Int) == (0 : Int)) && ((((x.l.args.length : Nat) : Int) : Int) == (0 : Int)))) && ((x.r.f : Int) == (0 : Int))), .yes (c := ((x.r.f : Int) == (0 : Int))) (d := (true && !(((x.l.f : Int) == (0 : Int)) && ((((x.l.args.length : Nat) : Int) : Int) == (0 : Int))))) rfl (fun v w h => h), fun h w => optUndef h, fun zβ za zw zc => ?_⟩, ?_⟩
    · exact eql_3 rfl ((show za.eval (.tmp 23) = za.tmps.getD 23 undef from rfl).trans (optVal (zc.dep 20 23 (by kernel_rfl)) rfl zβ)) (zc.kn.ev rfl) ⟨_, rfl, Below.refl _ _, optDef zβ rfl⟩
    refine ⟨⟨(true && !(((x.l.f : Int) == (0 : Int)) && ((((x.l.args.length : Nat) : Int) : Int) == (0 : Int)))), .no (c := (((x.l.f : Int) == (0 : Int)) && ((((x.l.args.length : Nat) : Int) : Int) == (0 : Int)))) (d := true) rfl (fun v w h => h), fun h w => optUndef h, fun zβ za zw zc => ?_⟩, ?_⟩
    · exact wp_and rfl ((show za.eval (.tmp 19) = za.tmps.getD 19 undef from rfl).trans (optVal (zc.dep 16 19 (by kernel_rfl)) rfl zβ)) (fun hp => ((show za.eval (.tmp 24) = za.tmps.getD 24 undef from rfl).trans (optVal (zc.dep 21 24 (by kernel_rfl)) rfl (bMk zβ hp)))) ⟨_, rfl, Below.refl _ _, optDef zβ rfl⟩
    refine ⟨⟨true, .none rfl, fun h w => optUndef h, fun zβ za zw zc => ?_⟩, ?_⟩
    · exact wp_or rfl ((show za.eval (.tmp 14) = za.tmps.getD 14 undef from rfl).trans (optVal (zc.dep 11 14 (by kernel_rfl)) rfl rfl)) (fun hp => ((show za.eval (.tmp 25) = za.tmps.getD 25 undef from rfl).trans (optVal (zc.dep 22 25 (by kernel_rfl)) rfl (bMkN zβ hp)))) ⟨_, rfl, Below.refl _ _, optDef zβ rfl⟩
    refine ⟨⟨true, .none rfl, fun h w => optUndef h, fun zβ za zw zc => ?_⟩, ?_⟩
    · exact wp_assign rfl ((show za.eval (.tmp 26) = za.tmps.getD 26 undef from rfl).trans (optVal (zc.dep 23 26 (by kernel_rfl)) rfl rfl)) ⟨_, rfl, Below.refl _ _, optDef zβ rfl⟩
    exact trivial
  · intro za w8 zh hb9 zu
    have zh := zh.cons (d := 2) (v := .bool (((((x.l.f : Int) == (0 : Int)) && ((((x.l.args.length : Nat) : Int) : Int) == (0 : Int))) || (((x.r.f : Int) == (0 : Int)) && ((((x.r.args.length : Nat) : Int) : Int) == (0 : Int)))))) (optVal (zu 24 2 (by kernel_rfl)) rfl rfl)
    clear zu
    refine (show WE _ [(0, .agg #[.bool x.neg, .int .i64 x.l.f, .slice a1 x.l.args.length c1, .int .i64 x.r.f, .slice a2 x.r.args.length c2]), (1, .pointer (some ⟨g2, 0, none⟩)), (2, .bool (((((x.l.f : Int) == (0 : Int)) && ((((x.l.args.length : Nat) : Int) : Int) == (0 : Int))) || (((x.r.f : Int) == (0 : Int)) && ((((x.r.args.length : Nat) : Int) : Int) == (0 : Int))))))] w8 _ .normal from ?_) za (zh.sub ⟨rfl, rfl, rfl, trivial⟩)
    refine WE.next ?_
    refine WC.ret ?_
    refine WE.ret1 rfl rfl ?_
    have hb10 : Below w.heap.size w w8 := (bstep hb5 hb9)
    exact ⟨_, rfl, congrArg Value.bool (by rw [Bool.eq_iff_iff]; simp [Li.atom, T.top]), hb10⟩

set_option maxRecDepth 100000 in
theorem atom_any (x : Li) (w : World) (g : Nat) (a1 a2 : Option Addr) (c1 c2 : Nat) (hB : Blk w g 41 #[.bool x.neg, .int .i64 x.l.f, .slice a1 x.l.args.length c1, .int .i64 x.r.f, .slice a2 x.r.args.length c2]) : Calls Try.prog 60 #[.pointer (some ⟨g, 0, none⟩)] w (Ret fun v' w' => v' = .bool x.atom ∧ Below w.heap.size w w') := by
  have hgl := hB.lt
  refine Calls.walk (l := [.pointer (some ⟨g, 0, none⟩)]) Try.func60 rfl (by kernel_rfl) ?_
  refine WC.sub (K' := [(0, .pointer (some ⟨g, 0, none⟩))]) ⟨rfl, trivial⟩ ?_
  refine WC.seq ?_
  refine WC.region ?_
  refine WL.val (.bool false) rfl rfl rfl (fun za zC zh zk => wp_assign rfl (zh.ev rfl) zk) ?_
  refine WL.nil (WE.sub (K' := [(0, .pointer (some ⟨g, 0, none⟩)), (2, .bool false)]) ⟨rfl, rfl, trivial⟩ ?_)
  refine WE.next ?_
  refine WC.seq ?_
  refine WC.opt [(true, .val (.pointer (some ⟨g, 0, none⟩))), (true, .val (.pointer (some ⟨g, 0, none⟩))), (true, .val (.pointer (some ⟨g, 1, none⟩))), (true, .val (.pointer (some ⟨g, 1, none⟩))), (true, .val (.int .i64 x.l.f)), (true, .val (.bool (((x.l.f : Int) == (0 : Int))))), (true, .val (.bool (((x.l.f : Int) == (0 : Int))))), ((true && ((x.l.f : Int) == (0 : Int))), .val (.pointer (some ⟨g, 0, none⟩))), ((true && ((x.l.f : Int) == (0 : Int))), .val (.pointer (some ⟨g, 0, none⟩))), ((true && ((x.l.f : Int) == (0 : Int))), .val (.pointer (some ⟨g, 1, none⟩))), ((true && ((x.l.f : Int) == (0 : Int))), .val (.pointer (some ⟨g, 2, none⟩))), ((true && ((x.l.f : Int) == (0 : Int))), .val (.slice a1 x.l.args.length c1)), ((true && ((x.l.f : Int) == (0 : Int))), .val (.int .i64 (((x.l.args.length : Nat) : Int)))), ((true && ((x.l.f : Int) == (0 : Int))), .val (.bool (((((x.l.args.length : Nat) : Int) : Int) == (0 : Int))))), (true, .val (.bool ((((x.l.f : Int) == (0 : Int)) && ((((x.l.args.length : Nat) : Int) : Int) == (0 : Int)))))), (true, .val (.bool ((((x.l.f : Int) == (0 : Int)) && ((((x.l.args.length : Nat) : Int) : Int) == (0 : Int)))))), ((true && !(((x.l.f : Int) == (0 : Int)) && ((((x.l.args.length : Nat) : Int) : Int) == (0 : Int)))), .val (.pointer (some ⟨g, 0, none⟩))), ((true && !(((x.l.f : Int) == (0 : Int)) && ((((x.l.args.length : Nat) : Int) : Int) == (0 : Int)))), .val (.pointer (some ⟨g, 0, none⟩))), ((true && !(((x.l.f : Int) == (0 : Int)) && ((((x.l.args.length : Nat) : Int) : Int) == (0 : Int)))), .val (.pointer (some ⟨g, 3, none⟩))), ((true && !(((x.l.f : Int) == (0 : Int)) && ((((x.l.args.length : Nat) : Int) : Int) == (0 : Int)))), .val (.pointer (some ⟨g, 3, none⟩))), ((true && !(((x.l.f : Int) == (0 : Int)) && ((((x.l.args.length : Nat) : Int) : Int) == (0 : Int)))), .val (.int .i64 x.r.f)), ((true && !(((x.l.f : Int) == (0 : Int)) && ((((x.l.args.length : Nat) : Int) : Int) == (0 : Int)))), .val (.bool (((x.r.f : Int) == (0 : Int))))), ((true && !(((x.l.f : Int) == (0 : Int)) && ((((x.l.args.length : Nat) : Int) : Int) == (0 : Int)))), .val (.bool (((x.r.f : Int) == (0 : Int))))), (((true && !(((x.l.f : Int) == (0 : Int)) && ((((x.l.args.length : Nat) : Int) : Int) == (0 : Int)))) && ((x.r.f : Int) == (0 : Int))), .val (.pointer (some ⟨g, 0, none⟩))), (((true && !(((x.l.f : Int) == (0 : Int)) && ((((x.l.args.length : Nat) : Int) : Int) == (0 : Int)))) && ((x.r.f : Int) == (0 : Int))), .val (.pointer (some ⟨g, 0, none⟩))), (((true && !(((x.l.f : Int) == (0 : Int)) && ((((x.l.args.length : Nat) : Int) : Int) == (0 : Int)))) && ((x.r.f : Int) == (0 : Int))), .val (.pointer (some ⟨g, 3, none⟩))), (((true && !(((x.l.f : Int) == (0 : Int)) && ((((x.l.args.length : Nat) : Int) : Int) == (0 : Int)))) && ((x.r.f : Int) == (0 : Int))), .val (.pointer (some ⟨g, 4, none⟩))), (((true && !(((x.l.f : Int) == (0 : Int)) && ((((x.l.args.length : Nat) : Int) : Int) == (0 : Int)))) && ((x.r.f : Int) == (0 : Int))), .val (.slice a2 x.r.args.length c2)), (((true && !(((x.l.f : Int) == (0 : Int)) && ((((x.l.args.length : Nat) : Int) : Int) == (0 : Int)))) && ((x.r.f : Int) == (0 : Int))), .val (.int .i64 (((x.r.args.length : Nat) : Int)))), (((true && !(((x.l.f : Int) == (0 : Int)) && ((((x.l.args.length : Nat) : Int) : Int) == (0 : Int)))) && ((x.r.f : Int) == (0 : Int))), .val (.bool (((((x.r.args.length : Nat) : Int) : Int) == (0 : Int))))), ((true && !(((x.l.f : Int) == (0 : Int)) && ((((x.l.args.length : Nat) : Int) : Int) == (0 : Int)))), .val (.bool ((((x.r.f : Int) == (0 : Int)) && ((((x.r.args.length : Nat) : Int) : Int) == (0 : Int)))))), (true, .val (.bool (((((x.l.f : Int) == (0 : Int)) && ((((x.l.args.length : Nat) : Int) : Int) == (0 : Int))) || (((x.r.f : Int) == (0 : Int)) && ((((x.r.args.length : Nat) : Int) : Int) == (0 : Int))))))), (true, .val (.bool (((((x.l.f : Int) == (0 : Int)) && ((((x.l.args.length : Nat) : Int) : Int) == (0 : Int))) || (((x.r.f : Int) == (0 : Int)) && ((((x.r.args.length : Nat) : Int) : Int) == (0 : Int)))))))] [(0, .pointer (some ⟨g, 0, none⟩))] ⟨rfl, trivial⟩ (by kernel_rfl) (by kernel_rfl) (by kernel_rfl) ?_ ?_
  · refine ⟨⟨true, .none rfl, fun h w => optUndef h, fun zβ za zw zc => ?_⟩, ?_⟩
    · exact wp_move rfl (zc.kn.ev rfl) ⟨_, rfl, Below.refl _ _, optDef zβ rfl⟩
    refine ⟨⟨true, .none rfl, fun h w => optUndef h, fun zβ za zw zc => ?_⟩, ?_⟩
    · exact nilCheck_ rfl ((show za.eval (.tmp 3) = za.tmps.getD 3 undef from rfl).trans (optVal (zc.dep 0 3 (by kernel_rfl)) rfl rfl)) ⟨_, rfl, Below.refl _ _, optDef zβ rfl⟩
    refine ⟨⟨true, .none rfl, fun h w => optUndef h, fun zβ za zw zc => ?_⟩, ?_⟩
    · exact fld_41_1 rfl ((show za.eval (.tmp 4) = za.tmps.getD 4 undef from rfl).trans (optVal (zc.dep 1 4 (by kernel_rfl)) rfl rfl)) ⟨_, rfl, Below.refl _ _, optDef zβ rfl⟩
    refine ⟨⟨true, .none rfl, fun h w => optUndef h, fun zβ za zw zc => ?_⟩, ?_⟩
    · exact fld_24_0 rfl ((show za.eval (.tmp 5) = za.tmps.getD 5 undef from rfl).trans (optVal (zc.dep 2 5 (by kernel_rfl)) rfl rfl)) ⟨_, rfl, Below.refl _ _, optDef zβ rfl⟩
    refine ⟨⟨true, .none rfl, fun h w => optUndef h, fun zβ za zw zc => ?_⟩, ?_⟩
    · exact ld_3 rfl ((show za.eval (.tmp 6) = za.tmps.getD 6 undef from rfl).trans (optVal (zc.dep 3 6 (by kernel_rfl)) rfl rfl)) (bkeeps zc.below _ _ ((hB.cell 1).trans rfl)) ⟨_, rfl, Below.refl _ _, optDef zβ rfl⟩
    refine ⟨⟨true, .none rfl, fun h w => optUndef h, fun zβ za zw zc => ?_⟩, ?_⟩
    · exact eql_3 rfl ((show za.eval (.tmp 7) = za.tmps.getD 7 undef from rfl).trans (optVal (zc.dep 4 7 (by kernel_rfl)) rfl rfl)) (zc.kn.ev rfl) ⟨_, rfl, Below.refl _ _, optDef zβ rfl⟩
    refine ⟨⟨true, .none rfl, fun h w => optUndef h, fun zβ za zw zc => ?_⟩, ?_⟩
    · exact wp_move rfl ((show za.eval (.tmp 8) = za.tmps.getD 8 undef from rfl).trans (optVal (zc.dep 5 8 (by kernel_rfl)) rfl rfl)) ⟨_, rfl, Below.refl _ _, optDef zβ rfl⟩
    refine ⟨⟨(true && ((x.l.f : Int) == (0 : Int))), .yes (c := ((x.l.f : Int) == (0 : Int))) (d := true) rfl (fun v w h => h), fun h w => optUndef h, fun zβ za zw zc => ?_⟩, ?_⟩
    · exact wp_move rfl (zc.kn.ev rfl) ⟨_, rfl, Below.refl _ _, optDef zβ rfl⟩
    refine ⟨⟨(true && ((x.l.f : Int) == (0 : Int))), .yes (c := ((x.l.f : Int) == (0 : Int))) (d := true) rfl (fun v w h => h), fun h w => optUndef h, fun zβ za zw zc => ?_⟩, ?_⟩
    · exact nilCheck_ rfl ((show za.eval (.tmp 10) = za.tmps.getD 10 undef from rfl).trans (optVal (zc.dep 7 10 (by kernel_rfl)) rfl zβ)) ⟨_, rfl, Below.refl _ _, optDef zβ rfl⟩
    refine ⟨⟨(true && ((x.l.f : Int) == (0 : Int))), .yes (c := ((x.l.f : Int) == (0 : Int))) (d := true) rfl (fun v w h => h), fun h w => optUndef h, fun zβ za zw zc => ?_⟩, ?_⟩
    · exact fld_41_1 rfl ((show za.eval (.tmp 11) = za.tmps.getD 11 undef from rfl).trans (optVal (zc.dep 8 11 (by kernel_rfl)) rfl zβ)) ⟨_, rfl, Below.refl _ _, optDef zβ rfl⟩
    refine ⟨⟨(true && ((x.l.f : Int) == (0 : Int))), .yes (c := ((x.l.f : Int) == (0 : Int))) (d := true) rfl (fun v w h => h), fun h w => optUndef h, fun zβ za zw zc => ?_⟩, ?_⟩
    · exact fld_24_1 rfl ((show za.eval (.tmp 12) = za.tmps.getD 12 undef from rfl).trans (optVal (zc.dep 9 12 (by kernel_rfl)) rfl zβ)) ⟨_, rfl, Below.refl _ _, optDef zβ rfl⟩
    refine ⟨⟨(true && ((x.l.f : Int) == (0 : Int))), .yes (c := ((x.l.f : Int) == (0 : Int))) (d := true) rfl (fun v w h => h), fun h w => optUndef h, fun zβ za zw zc => ?_⟩, ?_⟩
    · exact ld_22 rfl ((show za.eval (.tmp 13) = za.tmps.getD 13 undef from rfl).trans (optVal (zc.dep 10 13 (by kernel_rfl)) rfl zβ)) (bkeeps zc.below _ _ ((hB.cell 2).trans rfl)) ⟨_, rfl, Below.refl _ _, optDef zβ rfl⟩
    refine ⟨⟨(true && ((x.l.f : Int) == (0 : Int))), .yes (c := ((x.l.f : Int) == (0 : Int))) (d := true) rfl (fun v w h => h), fun h w => optUndef h, fun zβ za zw zc => ?_⟩, ?_⟩
    · exact len_22 rfl ((show za.eval (.tmp 14) = za.tmps.getD 14 undef from rfl).trans (optVal (zc.dep 11 14 (by kernel_rfl)) rfl zβ)) ⟨_, rfl, Below.refl _ _, optDef zβ rfl⟩
    refine ⟨⟨(true && ((x.l.f : Int) == (0 : Int))), .yes (c := ((x.l.f : Int) == (0 : Int))) (d := true) rfl (fun v w h => h), fun h w => optUndef h, fun zβ za zw zc => ?_⟩, ?_⟩
    · exact eql_3 rfl ((show za.eval (.tmp 15) = za.tmps.getD 15 undef from rfl).trans (optVal (zc.dep 12 15 (by kernel_rfl)) rfl zβ)) (zc.kn.ev rfl) ⟨_, rfl, Below.refl _ _, optDef zβ rfl⟩
    refine ⟨⟨true, .none rfl, fun h w => optUndef h, fun zβ za zw zc => ?_⟩, ?_⟩
    · exact wp_and rfl ((show za.eval (.tmp 9) = za.tmps.getD 9 undef from rfl).trans (optVal (zc.dep 6 9 (by kernel_rfl)) rfl rfl)) (fun hp => ((show za.eval (.tmp 16) = za.tmps.getD 16 undef from rfl).trans (optVal (zc.dep 13 16 (by kernel_rfl)) rfl (bMk zβ hp)))) ⟨_, rfl, Below.refl _ _, optDef zβ rfl⟩
    refine ⟨⟨true, .none rfl, fun h w => optUndef h, fun zβ za zw zc => ?_⟩, ?_⟩
    · exact wp_move rfl ((show za.eval (.tmp 17) = za.tmps.getD 17 undef from rfl).trans (optVal (zc.dep 14 17 (by kernel_rfl)) rfl rfl)) ⟨_, rfl, Below.refl _ _, optDef zβ rfl⟩
    refine ⟨⟨(true && !(((x.l.f : Int) == (0 : Int)) && ((((x.l.args.length : Nat) : Int) : Int) == (0 : Int)))), .no (c := (((x.l.f : Int) == (0 : Int)) && ((((x.l.args.length : Nat) : Int) : Int) == (0 : Int)))) (d := true) rfl (fun v w h => h), fun h w => optUndef h, fun zβ za zw zc => ?_⟩, ?_⟩
    · exact wp_move rfl (zc.kn.ev rfl) ⟨_, rfl, Below.refl _ _, optDef zβ rfl⟩
    refine ⟨⟨(true && !(((x.l.f : Int) == (0 : Int)) && ((((x.l.args.length : Nat) : Int) : Int) == (0 : Int)))), .no (c := (((x.l.f : Int) == (0 : Int)) && ((((x.l.args.length : Nat) : Int) : Int) == (0 : Int)))) (d := true) rfl (fun v w h => h), fun h w => optUndef h, fun zβ za zw zc => ?_⟩, ?_⟩
    · exact nilCheck_ rfl ((show za.eval (.tmp 19) = za.tmps.getD 19 undef from rfl).trans (optVal (zc.dep 16 19 (by kernel_rfl)) rfl zβ)) ⟨_, rfl, Below.refl _ _, optDef zβ rfl⟩
    refine ⟨⟨(true && !(((x.l.f : Int) == (0 : Int)) && ((((x.l.args.length : Nat) : Int) : Int) == (0 : Int)))), .no (c := (((x.l.f : Int) == (0 : Int)) && ((((x.l.args.length : Nat) : Int) : Int) == (0 : Int)))) (d := true) rfl (fun v w h => h), fun h w => optUndef h, fun zβ za zw zc => ?_⟩, ?_⟩
    · exact fld_41_2 rfl ((show za.eval (.tmp 20) = za.tmps.getD 20 undef from rfl).trans (optVal (zc.dep 17 20 (by kernel_rfl)) rfl zβ)) ⟨_, rfl, Below.refl _ _, optDef zβ rfl⟩
    refine ⟨⟨(true && !(((x.l.f : Int) == (0 : Int)) && ((((x.l.args.length : Nat) : Int) : Int) == (0 : Int)))), .no (c := (((x.l.f : Int) == (0 : Int)) && ((((x.l.args.length : Nat) : Int) : Int) == (0 : Int)))) (d := true) rfl (fun v w h => h), fun h w => optUndef h, fun zβ za zw zc => ?_⟩, ?_⟩
    · exact fld_24_0 rfl ((show za.eval (.tmp 21) = za.tmps.getD 21 undef from rfl).trans (optVal (zc.dep 18 21 (by kernel_rfl)) rfl zβ)) ⟨_, rfl, Below.refl _ _, optDef zβ rfl⟩
    refine ⟨⟨(true && !(((x.l.f : Int) == (0 : Int)) && ((((x.l.args.length : Nat) : Int) : Int) == (0 : Int)))), .no (c := (((x.l.f : Int) == (0 : Int)) && ((((x.l.args.length : Nat) : Int) : Int) == (0 : Int)))) (d := true) rfl (fun v w h => h), fun h w => optUndef h, fun zβ za zw zc => ?_⟩, ?_⟩
    · exact ld_3 rfl ((show za.eval (.tmp 22) = za.tmps.getD 22 undef from rfl).trans (optVal (zc.dep 19 22 (by kernel_rfl)) rfl zβ)) (bkeeps zc.below _ _ ((hB.cell 3).trans rfl)) ⟨_, rfl, Below.refl _ _, optDef zβ rfl⟩
    refine ⟨⟨(true && !(((x.l.f : Int) == (0 : Int)) && ((((x.l.args.length : Nat) : Int) : Int) == (0 : Int)))), .no (c := (((x.l.f : Int) == (0 : Int)) && ((((x.l.args.length : Nat) : Int) : Int) == (0 : Int)))) (d := true) rfl (fun v w h => h), fun h w => optUndef h, fun zβ za zw zc => ?_⟩, ?_⟩
    · exact eql_3 rfl ((show za.eval (.tmp 23) = za.tmps.getD 23 undef from rfl).trans (optVal (zc.dep 20 23 (by kernel_rfl)) rfl zβ)) (zc.kn.ev rfl) ⟨_, rfl, Below.refl _ _, optDef zβ rfl⟩
    refine ⟨⟨(true && !(((x.l.f : Int) == (0 : Int)) && ((((x.l.args.length : Nat) : Int) : Int) == (0 : Int)))), .no (c := (((x.l.f : Int) == (0 : Int)) && ((((x.l.args.length : Nat) : Int) : Int) == (0 : Int)))) (d := true) rfl (fun v w h => h), fun h w => optUndef h, fun zβ za zw zc => ?_⟩, ?_⟩
    · exact wp_move rfl ((show za.eval (.tmp 24) = za.tmps.getD 24 undef from rfl).trans (optVal (zc.dep 21 24 (by kernel_rfl)) rfl zβ)) ⟨_, rfl, Below.refl _ _, optDef zβ rfl⟩
    refine ⟨⟨((true && !(((x.l.f : Int) == (0 : Int)) && ((((x.l.args.length : Nat) : Int) : Int) == (0 : Int)))) && ((x.r.f : Int) == (0 : Int))), .yes (c := ((x.r.f : Int) == (0 : Int))) (d := (true && !(((x.l.f : Int) == (0 : Int)) && ((((x.l.args.length : Nat) : Int) : Int) == (0 : Int))))) rfl (fun v w h => h), fun h w => optUndef h, fun zβ za zw zc => ?_⟩, ?_⟩
    · exact wp_move rfl (zc.kn.ev rfl) ⟨_, rfl, Below.refl _ _, optDef zβ rfl⟩
    refine ⟨⟨((true && !(((x.l.f : Int) == (0 : Int)) && ((((x.l.args.length : Nat) : Int) : Int) == (0 : Int)))) && ((x.r.f : Int) == (0 : Int))), .yes (c := ((x.r.f : Int) == (0 : Int))) (d := (true && !(((x.l.f : Int) == (0 : Int)) && ((((x.l.args.length : Nat) : Int) : Int) == (0 : Int))))) rfl (fun v w h => h), fun h w => optUndef h, fun zβ za zw zc => ?_⟩, ?_⟩
    · exact nilCheck_ rfl ((show za.eval (.tmp 26) = za.tmps.getD 26 undef from rfl).trans (optVal (zc.dep 23 26 (by kernel_rfl)) rfl zβ)) ⟨_, rfl, Below.refl _ _, optDef zβ rfl⟩
    refine ⟨⟨((true && !(((x.l.f : Int) == (0 : Int)) && ((((x.l.args.length : Nat) : Int) : Int) == (0 : Int)))) && ((x.r.f : Int) == (0 : Int))), .yes (c := ((x.r.f : Int) == (0 : Int))) (d := (true && !(((x.l.f : Int) == (0 : Int)) && ((((x.l.args.length : Nat) : Int) : Int) == (0 : Int))))) rfl (fun v w h => h), fun h w => optUndef h, fun zβ za zw zc => ?_⟩, ?_⟩
    · exact fld_41_2 rfl ((show za.eval (.tmp 27) = za.tmps.getD 27 undef from rfl).trans (optVal (zc.dep 24 27 (by kernel_rfl)) rfl zβ)) ⟨_, rfl, Below.refl _ _, optDef zβ rfl⟩
    refine ⟨⟨((true && !(((x.l.f : Int) == (0 : Int)) && ((((x.l.args.length : Nat) : Int) : Int) == (0 : Int)))) && ((x.r.f : Int) == (0 : Int))), .yes (c := ((x.r.f : Int) == (0 : Int))) (d := (true && !(((x.l.f : Int) == (0 : Int)) && ((((x.l.args.length : Nat) : Int) : Int) == (0 : Int))))) rfl (fun v w h => h), fun h w => optUndef h, fun zβ za zw zc => ?_⟩, ?_⟩
    · exact fld_24_1 rfl ((show za.eval (.tmp 28) = za.tmps.getD 28 undef from rfl).trans (optVal (zc.dep 25 28 (by kernel_rfl)) rfl zβ)) ⟨_, rfl, Below.refl _ _, optDef zβ rfl⟩
    refine ⟨⟨((true && !(((x.l.f : Int) == (0 : Int)) && ((((x.l.args.length : Nat) : Int) : Int) == (0 : Int)))) && ((x.r.f : Int) == (0 : Int))), .yes (c := ((x.r.f : Int) == (0 : Int))) (d := (true && !(((x.l.f : Int) == (0 : Int)) && ((((x.l.args.length : Nat) : Int) : Int) == (0 : Int))))) rfl (fun v w h => h), fun h w => optUndef h, fun zβ za zw zc => ?_⟩, ?_⟩
    · exact ld_22 rfl ((show za.eval (.tmp 29) = za.tmps.getD 29 undef from rfl).trans (optVal (zc.dep 26 29 (by kernel_rfl)) rfl zβ)) (bkeeps zc.below _ _ ((hB.cell 4).trans rfl)) ⟨_, rfl, Below.refl _ _, optDef zβ rfl⟩
    refine ⟨⟨((true && !(((x.l.f : Int) == (0 : Int)) && ((((x.l.args.length : Nat) : Int) : Int) == (0 : Int)))) && ((x.r.f : Int) == (0 : Int))), .yes (c := ((x.r.f : Int) == (0 : Int))) (d := (true && !(((x.l.f : Int) == (0 : Int)) && ((((x.l.args.length : Nat) : Int) : Int) == (0 : Int))))) rfl (fun v w h => h), fun h w => optUndef h, fun zβ za zw zc => ?_⟩, ?_⟩
    · exact len_22 rfl ((show za.eval (.tmp 30) = za.tmps.getD 30 undef from rfl).trans (optVal (zc.dep 27 30 (by kernel_rfl)) rfl zβ)) ⟨_, rfl, Below.refl _ _, optDef zβ rfl⟩
    refine ⟨⟨((true && !(((x.l.f : Int) == (0 : Int)) && ((((x.l.args.length : Nat) : Int) : Int) == (0 : Int)))) && ((x.r.f : Int) == (0 : Int))), .yes (c := ((x.r.f : Int) == (0 : Int))) (d := (true && !(((x.l.f : Int) == (0 : Int)) && ((((x.l.args.length : Nat) : Int) : Int) == (0 : Int))))) rfl (fun v w h => h), fun h w => optUndef h, fun zβ za zw zc => ?_⟩, ?_⟩
    · exact eql_3 rfl ((show za.eval (.tmp 31) = za.tmps.getD 31 undef from rfl).trans (optVal (zc.dep 28 31 (by kernel_rfl)) rfl zβ)) (zc.kn.ev rfl) ⟨_, rfl, Below.refl _ _, optDef zβ rfl⟩
    refine ⟨⟨(true && !(((x.l.f : Int) == (0 : Int)) && ((((x.l.args.length : Nat) : Int) : Int) == (0 : Int)))), .no (c := (((x.l.f : Int) == (0 : Int)) && ((((x.l.args.length : Nat) : Int) : Int) == (0 : Int)))) (d := true) rfl (fun v w h => h), fun h w => optUndef h, fun zβ za zw zc => ?_⟩, ?_⟩
    · exact wp_and rfl ((show za.eval (.tmp 25) = za.tmps.getD 25 undef from rfl).trans (optVal (zc.dep 22 25 (by kernel_rfl)) rfl zβ)) (fun hp => ((show za.eval (.tmp 32) = za.tmps.getD 32 undef from rfl).trans (optVal (zc.dep 29 32 (by kernel_rfl)) rfl (bMk zβ hp)))) ⟨_, rfl, Below.refl _ _, optDef zβ rfl⟩
    refine ⟨⟨true, .none rfl, fun h w => optUndef h, fun zβ za zw zc => ?_⟩, ?_⟩
    · exact wp_or rfl ((show za.eval (.tmp 18) = za.tmps.getD 18 undef from rfl).trans (optVal (zc.dep 15 18 (by kernel_rfl)) rfl rfl)) (fun hp => ((show za.eval (.tmp 33) = za.tmps.getD 33 undef from rfl).trans (optVal (zc.dep 30 33 (by kernel_rfl)) rfl (bMkN zβ hp)))) ⟨_, rfl, Below.refl _ _, optDef zβ rfl⟩
    refine ⟨⟨true, .none rfl, fun h w => optUndef h, fun zβ za zw zc => ?_⟩, ?_⟩
    · exact wp_assign rfl ((show za.eval (.tmp 34) = za.tmps.getD 34 undef from rfl).trans (optVal (zc.dep 31 34 (by kernel_rfl)) rfl rfl)) ⟨_, rfl, Below.refl _ _, optDef zβ rfl⟩
    exact trivial
  · intro za w1 zh hb2 zu
    have zh := zh.cons (d := 2) (v := .bool (((((x.l.f : Int) == (0 : Int)) && ((((x.l.args.length : Nat) : Int) : Int) == (0 : Int))) || (((x.r.f : Int) == (0 : Int)) && ((((x.r.args.length : Nat) : Int) : Int) == (0 : Int)))))) (optVal (zu 32 2 (by kernel_rfl)) rfl rfl)
    clear zu
    refine (show WE _ [(0, .pointer (some ⟨g, 0, none⟩)), (2, .bool (((((x.l.f : Int) == (0 : Int)) && ((((x.l.args.length : Nat) : Int) : Int) == (0 : Int))) || (((x.r.f : Int) == (0 : Int)) && ((((x.r.args.length : Nat) : Int) : Int) == (0 : Int))))))] w1 _ .normal from ?_) za (zh.sub ⟨rfl, rfl, trivial⟩)
    refine WE.next ?_
    refine WC.ret ?_
    refine WE.ret1 rfl rfl ?_
    exact ⟨_, rfl, congrArg Value.bool (by rw [Bool.eq_iff_iff]; simp [Li.atom, T.top]), hb2⟩

end Go.Proofs.Ytcmfjnadjddboaa
