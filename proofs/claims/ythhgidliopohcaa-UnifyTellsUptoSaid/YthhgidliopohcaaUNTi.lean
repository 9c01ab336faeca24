/- Regions in whatever order: a call whose outcome is one of many, and operations that hand its outcome on. -/
import Derived.Test.YthhgidliopohcaaUNTg
import Derived.Test.YthhgidliopohcaaUNTh
import Derived.Test.YthhgidliopohcaaUNTa
import Derived.Test.YthhgidliopohcaaUNTf

/- What variables become: the document's program. -/
namespace Go.Proofs.Ythhgidliopohcaa
open Go.RowKit Go
set_option linter.unusedVariables false
set_option linter.unusedSimpArgs false
set_option maxRecDepth 100000 in
theorem rpairs_any (l : List (T × T)) (w : World) (a : Option Addr) (c : Nat) (hl : IsPs w l a c) (hlz : l.length ≤ 1048576) (hsz : ∀ k, k < l.length → (prget l k).1.size ≤ 4294967296 ∧ (prget l k).2.size ≤ 4294967296) :
  Calls Try.prog 7 #[.slice a l.length c] w (Ret fun v' w' => (∃ bs a' c' e, v' = .tuple #[.slice a' bs.length c', .int .i64 e] ∧ PairsIs false l bs e ∧ InRow eltB (fun b => w.heap.size ≤ b) w' bs a' ∧ bs.length ≤ c' ∧ c' ≤ maxLen ∧ bs.length ≤ 96) ∧ Below w.heap.size w w') := by
 skip
 refine Calls.walk (l := [.slice a l.length c]) Try.func7 rfl (by kernel_rfl) ?_
 refine WC.sub (K' := [(0, .slice a l.length c)]) ⟨rfl, trivial⟩ ?_
 refine WC.seq (WC.region (WL.asg rfl rfl rfl rfl rfl (WL.asg rfl rfl rfl rfl rfl (WL.nil (WE.next (WC.seq (WC.seq (WC.region (WL.mv rfl rfl rfl rfl rfl ?_)))))))))
 refine WL.call rfl rfl rfl (fun za zh zC => wp_call (by kernel_rfl) rfl (hv1 (zh.ev rfl))) (rwide_any l _ a c hl hlz hsz) ?_
 rintro _ w2 ⟨rfl, hq1⟩
 refine WL.val (.bool ((!(wideB l)))) rfl rfl rfl (fun za zC zh zk => wp_not rfl (zh.ev rfl) zk) ?_
 refine WL.nil (WE.next ?_)
 refine WC.cond rfl (fun h3 => ?_) (fun h3 => ?_)
 ·have h3 : ¬ ((wideB l) = true) := by simpa using h3
  have hW : wideB l = false := by simpa using h3
  refine WC.seq (WC.region (WL.asg rfl rfl rfl rfl rfl (WL.asg rfl rfl rfl rfl rfl (WL.nil (WE.next (WC.ret (WE.thenRet (WE.ret2 rfl rfl rfl ?_))))))))
  exact ⟨_, rfl, ⟨[], none, 0, 2, rfl, .inl ⟨hW, rfl, rfl⟩, fun i hi => by simp at hi, Nat.le_refl _, by unfold maxLen; omega, by decide⟩, hq1⟩
 ·have h3 : ¬ (¬ ((wideB l) = true)) := by simpa using h3
  have hW : wideB l = true := by simpa using h3
  refine WC.skip (WE.next (WC.seq (WC.region (WL.mv rfl rfl rfl rfl rfl ?_))))
  refine WL.call rfl rfl rfl (fun za zh zC => wp_call (by kernel_rfl) rfl (hv1 (zh.ev rfl))) (rjoined_any l _ a c (hl.below hq1) hW) ?_
  have hw0 : w.heap.size ≤ w2.heap.size := (hq1).size
  rintro v6 w4 ⟨h7, hb5⟩
  rcases h7 with ⟨hsv, rfl⟩ | ⟨st, κ, g, gm, zb, zc, db, dc, ms, hgo, hAk, hdn, rfl, hNS, hM⟩
  ·refine WL.mv rfl rfl rfl rfl rfl ?_
   refine WL.val (.pointer none) rfl rfl rfl (fun za zC zh zk => ext3_0 rfl (zh.ev rfl) zk) ?_
   refine WL.val (.pointer none) rfl rfl rfl (fun za zC zh zk => ext3_1 rfl (zh.ev rfl) zk) ?_
   refine WL.val (.bool false) rfl rfl rfl (fun za zC zh zk => ext3_2 rfl (zh.ev rfl) zk) ?_
   refine WL.asg rfl rfl rfl rfl rfl (WL.asg rfl rfl rfl rfl rfl (WL.asg rfl rfl rfl rfl rfl (WL.nil (WE.next (WC.seq (WC.seq (WC.region (WL.mv rfl rfl rfl rfl rfl ?_))))))))
   refine WL.val (.bool true) rfl rfl rfl (fun za zC zh zk => wp_not rfl (zh.ev rfl) zk) ?_
   refine WL.nil (WE.next ?_)
   refine WC.condT rfl rfl ?_
   refine WC.seq (WC.region (WL.asg rfl rfl rfl rfl rfl (WL.asg rfl rfl rfl rfl rfl (WL.nil (WE.next (WC.ret (WE.thenRet (WE.ret2 rfl rfl rfl ?_))))))))
   have hb8 : Below w.heap.size w w4 := (bstep hq1 hb5)
   exact ⟨_, rfl, ⟨[], none, 0, 4, rfl, .inr ⟨hW, none, hsv, rfl⟩, fun i hi => by simp at hi, Nat.le_refl _, by unfold maxLen; omega, by decide⟩, hb8⟩
  ·obtain ⟨Z, U, d, hZ, hR, hN⟩ := hNS
   have hZl := hN.lt
   have hgml := hM.blk.lt
   have hzbl := hM.z.lt
   have hdbl := hM.d.lt
   have hln := hgo.len
   have hag := hgo.arg
   have hk := hgo.cl.ok
   have hNo := hgo.ok.args
   have hml := hAk.len
   have h64 : l.length ≤ 64 := by unfold wideB at hW; rw [Bool.and_eq_true, decide_eq_true_eq] at hW; exact hW.1
   have hms := hAk.meas hdn
   have hrn := hgo.run
   rw [List.take_length] at hrn
   have hsv : SolveIs false l (some (st, κ, msz ms, mdp ms)) := .ok hrn hms
   have hU0 := hN.len
   have hb9 : Below w.heap.size w w4 := (bstep hq1 hb5)
   have hw1 : w.heap.size ≤ w4.heap.size := (hb9).size
   refine WL.mv rfl rfl rfl rfl rfl ?_
   refine WL.val (.pointer (some ⟨g, 0, none⟩)) rfl rfl rfl (fun za zC zh zk => ext3_0 rfl (zh.ev rfl) zk) ?_
   refine WL.val (.pointer (some ⟨gm, 0, none⟩)) rfl rfl rfl (fun za zC zh zk => ext3_1 rfl (zh.ev rfl) zk) ?_
   refine WL.val (.bool true) rfl rfl rfl (fun za zC zh zk => ext3_2 rfl (zh.ev rfl) zk) ?_
   refine WL.asg rfl rfl rfl rfl rfl (WL.asg rfl rfl rfl rfl rfl (WL.asg rfl rfl rfl rfl rfl (WL.nil (WE.next (WC.seq (WC.seq (WC.region (WL.mv rfl rfl rfl rfl rfl ?_))))))))
   refine WL.val (.bool false) rfl rfl rfl (fun za zC zh zk => wp_not rfl (zh.ev rfl) zk) ?_
   refine WL.nil (WE.next ?_)
   refine WC.condF rfl rfl ?_
   refine WC.skip (WE.next (WC.seq (WC.region (WL.asg rfl rfl rfl rfl rfl (WL.nil (WE.next (WC.seq (WC.seq (WC.region (WL.asg rfl rfl rfl rfl rfl (WL.nil (WE.next (WC.block ?_)))))))))))))
   have hr0 : RowD eltB (fun b => w4.heap.size ≤ b ∧ obk none 0 0 ≠ some b) w4 41 none 0 0 ([]) := RowD.nil
   have hC0 : Chg Z w4 w4 := .ofBelow (Below.refl _ _)
   refine WC.loop (X := VS) (fun x => 96 - x.v) (fun x => [(0, .slice a l.length c), (4, .pointer (some ⟨g, 0, none⟩)), (5, .pointer (some ⟨gm, 0, none⟩)), (6, .bool true), (7, .slice x.ra x.n x.rc), (8, .int .i64 (((x.v : Nat) : Int))), (12, .bool ((!(wideB l)))), (20, .bool false)]) (fun x w10 => x.v ≤ 96 ∧ Reps x.U κ d ∧ bindsM st κ (msz ms) (mdp ms) x.v = some x.L ∧ (∀ q, obk x.ra x.n x.rc = some q → w4.heap.size ≤ q) ∧ x.n ≤ x.v ∧ Chg Z w4 w10 ∧ Below w.heap.size w w10 ∧ RX (w10) g Z x.U st.N st.V ∧ RM (w10) gm zb zc db dc ms ∧ RowD eltB (fun b => w4.heap.size ≤ b ∧ obk x.ra x.n x.rc ≠ some b) (w10) 41 x.ra x.rc x.n x.L) (⟨0, U, 0, [], none, 0⟩) ⟨rfl, rfl, rfl, rfl, rfl, rfl, rfl, rfl, trivial⟩ ?_ ?_
   ·exact ⟨Nat.zero_le _, hR, rfl, (fun q e => nomatch e), Nat.le_refl _, hC0, hb9, hN, hM, hr0⟩
   ·rintro x w10 ⟨hvx, hRx, hbx, hownx, hnv, hCx, hb11, ho12, ho13, ho14⟩
    have hwx := hCx.size
    have hnL := ho14.len
    refine WC.seq (WC.seq (WC.region (WL.mv rfl rfl rfl rfl rfl ?_)))
    refine WL.val (.bool ((decide ((((x.v : Nat) : Int) : Int) < (96 : Int))))) rfl rfl rfl (fun za zC zh zk => lss_3 rfl (zh.ev rfl) (zh.ev rfl) zk) ?_
    refine WL.nil (WE.next ?_)
    refine WC.cond rfl (fun h15 => ?_) (fun h15 => ?_)
    ·have h15 : (((x.v : Nat) : Int) : Int) < (96 : Int) := by simpa using h15
     refine WC.skip (WE.next (WC.seq (WC.block (WC.seq (WC.seq ?_)))))
     obtain ⟨S8, la, lc, ua, uc, vb, vc, hP8, hU8, hPZ, _⟩ := id ho12
     by_cases hz9 : st.V x.v = 0
     ·have hcv9 : w10.cell? ⟨vb, 0 + x.v, none⟩ = some (.int .i64 (-1)) := by
       have z := hP8.of.cell (v := x.v) (by omega)
       rw [hz9] at z; exact z
      refine WC.opt [(true, .val (.pointer (some ⟨g, 0, none⟩))), (true, .val (.pointer (some ⟨g, 0, none⟩))), (true, .val (.pointer (some ⟨g, 2, none⟩))), (true, .val (.slice ((some ⟨vb, 0, none⟩)) 96 vc)), (true, .val (.int .i64 (((x.v : Nat) : Int)))), (true, .val (.pointer (some ⟨vb, 0 + x.v, none⟩))), (true, .val (.int .i64 ((-1)))), (true, .val (.bool true)), (true, .val (.bool true)), ((true && !true), .val undef), ((true && !true), .val undef), ((true && !true), .val undef), ((true && !true), .val undef), ((true && !true), .val undef), ((true && !true), .val undef), ((true && !true), .val undef), ((true && !true), .val undef), ((true && !true), .val undef), ((true && !true), .val undef), ((true && !true), .val undef), ((true && !true), .val undef), ((true && !true), .val undef), ((true && !true), .val undef), ((true && !true), .val undef), ((true && !true), .val undef), ((true && !true), .val undef), ((true && !true), .val undef), ((true && !true), .val undef), (true, .val (.bool true))] [(0, .slice a l.length c), (4, .pointer (some ⟨g, 0, none⟩)), (5, .pointer (some ⟨gm, 0, none⟩)), (6, .bool true), (7, .slice x.ra x.n x.rc), (8, .int .i64 (((x.v : Nat) : Int))), (12, .bool ((!(wideB l)))), (20, .bool false), (22, .bool ((decide ((((x.v : Nat) : Int) : Int) < (96 : Int)))))] ⟨rfl, rfl, rfl, rfl, rfl, rfl, rfl, rfl, rfl, trivial⟩ (by kernel_rfl) (by kernel_rfl) (by kernel_rfl) ?_ ?_
      ·refine ⟨⟨true, .none rfl, fun h w => optUndef h, fun zβ za zw zc => ?_⟩, ?_⟩
       ·exact wp_move rfl (zc.kn.ev rfl) ⟨_, rfl, Below.refl _ _, optDef zβ rfl⟩
       refine ⟨⟨true, .none rfl, fun h w => optUndef h, fun zβ za zw zc => ?_⟩, ?_⟩
       ·exact nilCheck_ rfl ((evt za 25).trans (optVal (zc.dep 0 25 (by kernel_rfl)) rfl rfl)) ⟨_, rfl, Below.refl _ _, optDef zβ rfl⟩
       refine ⟨⟨true, .none rfl, fun h w => optUndef h, fun zβ za zw zc => ?_⟩, ?_⟩
       ·exact fld_67_2 rfl ((evt za 26).trans (optVal (zc.dep 1 26 (by kernel_rfl)) rfl rfl)) ⟨_, rfl, Below.refl _ _, optDef zβ rfl⟩
       refine ⟨⟨true, .none rfl, fun h w => optUndef h, fun zβ za zw zc => ?_⟩, ?_⟩
       ·exact ld_48 rfl ((evt za 27).trans (optVal (zc.dep 2 27 (by kernel_rfl)) rfl rfl)) (bkeeps zc.below _ _ hP8.c2) ⟨_, rfl, Below.refl _ _, optDef zβ rfl⟩
       refine ⟨⟨true, .none rfl, fun h w => optUndef h, fun zβ za zw zc => ?_⟩, ?_⟩
       ·exact wp_move rfl (zc.kn.ev rfl) ⟨_, rfl, Below.refl _ _, optDef zβ rfl⟩
       refine ⟨⟨true, .none rfl, fun h w => optUndef h, fun zβ za zw zc => ?_⟩, ?_⟩
       ·exact ix_48 (k := x.v) rfl ((evt za 28).trans (optVal (zc.dep 3 28 (by kernel_rfl)) rfl rfl)) rfl ((evt za 29).trans (optVal (zc.dep 4 29 (by kernel_rfl)) rfl rfl)) (by first | omega | (simp; omega)) ⟨_, rfl, Below.refl _ _, optDef zβ rfl⟩
       refine ⟨⟨true, .none rfl, fun h w => optUndef h, fun zβ za zw zc => ?_⟩, ?_⟩
       ·exact ld_3 rfl ((evt za 30).trans (optVal (zc.dep 5 30 (by kernel_rfl)) rfl rfl)) (bkeeps zc.below _ _ hcv9) ⟨_, rfl, Below.refl _ _, optDef zβ rfl⟩
       refine ⟨⟨true, .none rfl, fun h w => optUndef h, fun zβ za zw zc => ?_⟩, ?_⟩
       ·exact lss_3 rfl ((evt za 31).trans (optVal (zc.dep 6 31 (by kernel_rfl)) rfl rfl)) (zc.kn.ev rfl) ⟨_, rfl, Below.refl _ _, optDef zβ (congrArg Value.bool (by decide))⟩
       refine ⟨⟨true, .none rfl, fun h w => optUndef h, fun zβ za zw zc => ?_⟩, ?_⟩
       ·exact wp_move rfl ((evt za 32).trans (optVal (zc.dep 7 32 (by kernel_rfl)) rfl rfl)) ⟨_, rfl, Below.refl _ _, optDef zβ rfl⟩
       refine ⟨⟨(true && !true), .no (c := true) (d := true) rfl (fun v w h => h), fun h w => optUndef h, fun zβ za zw zc => ?_⟩, ?_⟩
       ·simp at zβ
       refine ⟨⟨(true && !true), .no (c := true) (d := true) rfl (fun v w h => h), fun h w => optUndef h, fun zβ za zw zc => ?_⟩, ?_⟩
       ·simp at zβ
       refine ⟨⟨(true && !true), .no (c := true) (d := true) rfl (fun v w h => h), fun h w => optUndef h, fun zβ za zw zc => ?_⟩, ?_⟩
       ·simp at zβ
       refine ⟨⟨(true && !true), .no (c := true) (d := true) rfl (fun v w h => h), fun h w => optUndef h, fun zβ za zw zc => ?_⟩, ?_⟩
       ·simp at zβ
       refine ⟨⟨(true && !true), .no (c := true) (d := true) rfl (fun v w h => h), fun h w => optUndef h, fun zβ za zw zc => ?_⟩, ?_⟩
       ·simp at zβ
       refine ⟨⟨(true && !true), .no (c := true) (d := true) rfl (fun v w h => h), fun h w => optUndef h, fun zβ za zw zc => ?_⟩, ?_⟩
       ·simp at zβ
       refine ⟨⟨(true && !true), .no (c := true) (d := true) rfl (fun v w h => h), fun h w => optUndef h, fun zβ za zw zc => ?_⟩, ?_⟩
       ·simp at zβ
       refine ⟨⟨(true && !true), .no (c := true) (d := true) rfl (fun v w h => h), fun h w => optUndef h, fun zβ za zw zc => ?_⟩, ?_⟩
       ·simp at zβ
       refine ⟨⟨(true && !true), .no (c := true) (d := true) rfl (fun v w h => h), fun h w => optUndef h, fun zβ za zw zc => ?_⟩, ?_⟩
       ·simp at zβ
       refine ⟨⟨(true && !true), .no (c := true) (d := true) rfl (fun v w h => h), fun h w => optUndef h, fun zβ za zw zc => ?_⟩, ?_⟩
       ·simp at zβ
       refine ⟨⟨(true && !true), .no (c := true) (d := true) rfl (fun v w h => h), fun h w => optUndef h, fun zβ za zw zc => ?_⟩, ?_⟩
       ·simp at zβ
       refine ⟨⟨(true && !true), .no (c := true) (d := true) rfl (fun v w h => h), fun h w => optUndef h, fun zβ za zw zc => ?_⟩, ?_⟩
       ·simp at zβ
       refine ⟨⟨(true && !true), .no (c := true) (d := true) rfl (fun v w h => h), fun h w => optUndef h, fun zβ za zw zc => ?_⟩, ?_⟩
       ·simp at zβ
       refine ⟨⟨(true && !true), .no (c := true) (d := true) rfl (fun v w h => h), fun h w => optUndef h, fun zβ za zw zc => ?_⟩, ?_⟩
       ·simp at zβ
       refine ⟨⟨(true && !true), .no (c := true) (d := true) rfl (fun v w h => h), fun h w => optUndef h, fun zβ za zw zc => ?_⟩, ?_⟩
       ·simp at zβ
       refine ⟨⟨(true && !true), .no (c := true) (d := true) rfl (fun v w h => h), fun h w => optUndef h, fun zβ za zw zc => ?_⟩, ?_⟩
       ·simp at zβ
       refine ⟨⟨(true && !true), .no (c := true) (d := true) rfl (fun v w h => h), fun h w => optUndef h, fun zβ za zw zc => ?_⟩, ?_⟩
       ·simp at zβ
       refine ⟨⟨(true && !true), .no (c := true) (d := true) rfl (fun v w h => h), fun h w => optUndef h, fun zβ za zw zc => ?_⟩, ?_⟩
       ·simp at zβ
       refine ⟨⟨(true && !true), .no (c := true) (d := true) rfl (fun v w h => h), fun h w => optUndef h, fun zβ za zw zc => ?_⟩, ?_⟩
       ·simp at zβ
       refine ⟨⟨true, .none rfl, fun h w => optUndef h, fun zβ za zw zc => ?_⟩, ?_⟩
       ·exact wp_pickT rfl ((evt za 33).trans (optVal (zc.dep 8 33 (by kernel_rfl)) rfl rfl)) (zc.kn.ev rfl) ⟨_, rfl, Below.refl _ _, optDef zβ rfl⟩
       exact trivial
      ·intro za w16 zh hb17 zu
       have zh := zh.cons (d := 53) (v := .bool true) (optVal (zu 28 53 (by kernel_rfl)) rfl rfl)
       clear zu
       refine WE.go zh ?_
       refine WE.next ?_
       refine WC.condT rfl rfl ?_
       refine WC.exit (WE.thenExit (WE.blockIs rfl (WE.next (WC.region (WL.mv rfl rfl rfl rfl rfl ?_)))))
       refine WL.val (.int .i64 ((((x.v + 1) : Nat) : Int))) rfl rfl rfl (fun za zC zh zk => addb_3 rfl (zh.ev rfl) (zh.ev rfl) (wrap_eq (by omega) (by omega) (by omega)) zk) ?_
       refine WL.asg rfl rfl rfl rfl rfl (WL.nil ?_)
       have hC18 := Chg.trans hCx (.ofBelow hb17)
       refine WE.round (⟨x.v + 1, x.U, x.n, x.L, x.ra, x.rc⟩) ⟨rfl, rfl, rfl, rfl, rfl, rfl, rfl, rfl, trivial⟩ ?_ ?_
       ·have hb19 : Below w.heap.size w w16 := (bstep hb11 hb17)
        have ho20 := ho12.below hb17
        have ho21 := ho13.below hb17
        have ho22 := ho14.below hb17
        exact ⟨(by (try dsimp only); omega), hRx, (by show bindsM st κ (msz ms) (mdp ms) (x.v + 1) = _; rw [bindsM, hbx]; dsimp only; rw [if_pos hz9]), hownx, (by (try dsimp only); omega), hC18, hb19, ho20, ho21, ho22⟩
       ·(try dsimp only); omega
     ·have hcv9 : w10.cell? ⟨vb, 0 + x.v, none⟩ = some (.int .i64 (((st.V x.v - 1 : Nat) : Nat) : Int)) := by
       have z := hP8.of.cell (v := x.v) (by omega)
       rw [show (st.V x.v : Int) - 1 = ((st.V x.v - 1 : Nat) : Int) by omega] at z; exact z
      have hvN := (hgo.ok.vars x.v).1
      have hvl : st.V x.v - 1 < st.N.length := by omega
      have hkl : (κ (st.V x.v - 1)) < st.N.length := hk.lt _ hvl
      have hkk : κ (κ (st.V x.v - 1)) = (κ (st.V x.v - 1)) := hk.idem _
      have hb3 := hAk.bnd _ (hdn _ hvl)
      have hb4 := ndS_le ms
      unfold capS at hb3
      have hop9 := (hAk.done _ (hdn _ hvl)).1
      have hsz9 : szI (mget ms (κ (st.V x.v - 1))) = ((mget ms (κ (st.V x.v - 1))).sz : Int) := by unfold szI; rw [hop9]; rfl
      obtain ⟨ub, rfl⟩ := hP8.ub (by omega)
      obtain ⟨ob, A9, C9, rfl, hob, hcP⟩ := hP8.ofP (by omega)
      have hP9 := hP8
      rw [hU8] at hP9
      have hUx : x.U.length = st.N.length := hU8
      refine WC.opt [(true, .val (.pointer (some ⟨g, 0, none⟩))), (true, .val (.pointer (some ⟨g, 0, none⟩))), (true, .val (.pointer (some ⟨g, 2, none⟩))), (true, .val (.slice ((some ⟨vb, 0, none⟩)) 96 vc)), (true, .val (.int .i64 (((x.v : Nat) : Int)))), (true, .val (.pointer (some ⟨vb, 0 + x.v, none⟩))), (true, .val (.int .i64 ((((st.V x.v - 1) : Nat) : Int)))), (true, .val (.bool false)), (true, .val (.bool false)), ((true && !false), .val (.pointer (some ⟨g, 0, none⟩))), ((true && !false), .val (.pointer (some ⟨g, 0, none⟩))), ((true && !false), .val (.pointer (some ⟨g, 0, none⟩))), ((true && !false), .val (.slice ((some ⟨ob, 0, none⟩)) st.N.length lc)), ((true && !false), .val (.pointer (some ⟨g, 0, none⟩))), ((true && !false), .val (.pointer (some ⟨g, 0, none⟩))), ((true && !false), .val (.pointer (some ⟨g, 0, none⟩))), ((true && !false), .val (.pointer (some ⟨g, 2, none⟩))), ((true && !false), .val (.slice ((some ⟨vb, 0, none⟩)) 96 vc)), ((true && !false), .val (.int .i64 (((x.v : Nat) : Int)))), ((true && !false), .val (.pointer (some ⟨vb, 0 + x.v, none⟩))), ((true && !false), .val (.int .i64 ((((st.V x.v - 1) : Nat) : Int)))), ((true && !false), .val (.int .i64 ((((κ (st.V x.v - 1)) : Nat) : Int)))), ((true && !false), .val (.pointer (some ⟨ob, 0 + ((κ (st.V x.v - 1))) * 2, none⟩))), ((true && !false), .val (.pointer (some ⟨ob, 0 + ((κ (st.V x.v - 1))) * 2, none⟩))), ((true && !false), .val (.int .i64 ((pget st.N ((κ (st.V x.v - 1)))).fn))), ((true && !false), .val (.int .i64 (((x.v : Nat) : Int)))), ((true && !false), .val (.int .i64 (((-1) - ((x.v : Nat) : Int))))), ((true && !false), .val (.bool ((((pget st.N ((κ (st.V x.v - 1)))).fn : Int) == (((-1) - ((x.v : Nat) : Int)) : Int))))), (true, .val (.bool ((((pget st.N ((κ (st.V x.v - 1)))).fn : Int) == (((-1) - ((x.v : Nat) : Int)) : Int)))))] [(0, .slice a l.length c), (4, .pointer (some ⟨g, 0, none⟩)), (5, .pointer (some ⟨gm, 0, none⟩)), (6, .bool true), (7, .slice x.ra x.n x.rc), (8, .int .i64 (((x.v : Nat) : Int))), (12, .bool ((!(wideB l)))), (20, .bool false), (22, .bool ((decide ((((x.v : Nat) : Int) : Int) < (96 : Int)))))] ⟨rfl, rfl, rfl, rfl, rfl, rfl, rfl, rfl, rfl, trivial⟩ (by kernel_rfl) (by kernel_rfl) (by kernel_rfl) ?_ ?_
      ·refine ⟨⟨true, .none rfl, fun h w => optUndef h, fun zβ za zw zc => ?_⟩, ?_⟩
       ·exact wp_move rfl (zc.kn.ev rfl) ⟨_, rfl, Below.refl _ _, optDef zβ rfl⟩
       refine ⟨⟨true, .none rfl, fun h w => optUndef h, fun zβ za zw zc => ?_⟩, ?_⟩
       ·exact nilCheck_ rfl ((evt za 25).trans (optVal (zc.dep 0 25 (by kernel_rfl)) rfl rfl)) ⟨_, rfl, Below.refl _ _, optDef zβ rfl⟩
       refine ⟨⟨true, .none rfl, fun h w => optUndef h, fun zβ za zw zc => ?_⟩, ?_⟩
       ·exact fld_67_2 rfl ((evt za 26).trans (optVal (zc.dep 1 26 (by kernel_rfl)) rfl rfl)) ⟨_, rfl, Below.refl _ _, optDef zβ rfl⟩
       refine ⟨⟨true, .none rfl, fun h w => optUndef h, fun zβ za zw zc => ?_⟩, ?_⟩
       ·exact ld_48 rfl ((evt za 27).trans (optVal (zc.dep 2 27 (by kernel_rfl)) rfl rfl)) (bkeeps zc.below _ _ hP8.c2) ⟨_, rfl, Below.refl _ _, optDef zβ rfl⟩
       refine ⟨⟨true, .none rfl, fun h w => optUndef h, fun zβ za zw zc => ?_⟩, ?_⟩
       ·exact wp_move rfl (zc.kn.ev rfl) ⟨_, rfl, Below.refl _ _, optDef zβ rfl⟩
       refine ⟨⟨true, .none rfl, fun h w => optUndef h, fun zβ za zw zc => ?_⟩, ?_⟩
       ·exact ix_48 (k := x.v) rfl ((evt za 28).trans (optVal (zc.dep 3 28 (by kernel_rfl)) rfl rfl)) rfl ((evt za 29).trans (optVal (zc.dep 4 29 (by kernel_rfl)) rfl rfl)) (by first | omega | (simp; omega)) ⟨_, rfl, Below.refl _ _, optDef zβ rfl⟩
       refine ⟨⟨true, .none rfl, fun h w => optUndef h, fun zβ za zw zc => ?_⟩, ?_⟩
       ·exact ld_3 rfl ((evt za 30).trans (optVal (zc.dep 5 30 (by kernel_rfl)) rfl rfl)) (bkeeps zc.below _ _ hcv9) ⟨_, rfl, Below.refl _ _, optDef zβ rfl⟩
       refine ⟨⟨true, .none rfl, fun h w => optUndef h, fun zβ za zw zc => ?_⟩, ?_⟩
       ·exact lss_3 rfl ((evt za 31).trans (optVal (zc.dep 6 31 (by kernel_rfl)) rfl rfl)) (zc.kn.ev rfl) ⟨_, rfl, Below.refl _ _, optDef zβ (congrArg Value.bool (decide_eq_false (by omega)))⟩
       refine ⟨⟨true, .none rfl, fun h w => optUndef h, fun zβ za zw zc => ?_⟩, ?_⟩
       ·exact wp_move rfl ((evt za 32).trans (optVal (zc.dep 7 32 (by kernel_rfl)) rfl rfl)) ⟨_, rfl, Below.refl _ _, optDef zβ rfl⟩
       refine ⟨⟨_, .no (c := false) (d := true) rfl (fun v w h => h), fun h w => optUndef h, fun zβ za zw zc => ?_⟩, ?_⟩
       ·exact wp_move rfl (zc.kn.ev rfl) ⟨_, rfl, Below.refl _ _, optDef zβ rfl⟩
       refine ⟨⟨_, .no (c := false) (d := true) rfl (fun v w h => h), fun h w => optUndef h, fun zβ za zw zc => ?_⟩, ?_⟩
       ·exact nilCheck_ rfl ((evt za 34).trans (optVal (zc.dep 9 34 (by kernel_rfl)) rfl rfl)) ⟨_, rfl, Below.refl _ _, optDef zβ rfl⟩
       refine ⟨⟨_, .no (c := false) (d := true) rfl (fun v w h => h), fun h w => optUndef h, fun zβ za zw zc => ?_⟩, ?_⟩
       ·exact fld_67_0 rfl ((evt za 35).trans (optVal (zc.dep 10 35 (by kernel_rfl)) rfl rfl)) ⟨_, rfl, Below.refl _ _, optDef zβ rfl⟩
       refine ⟨⟨_, .no (c := false) (d := true) rfl (fun v w h => h), fun h w => optUndef h, fun zβ za zw zc => ?_⟩, ?_⟩
       ·exact ld_65 rfl ((evt za 36).trans (optVal (zc.dep 11 36 (by kernel_rfl)) rfl rfl)) (bkeeps zc.below _ _ hP9.c0) ⟨_, rfl, Below.refl _ _, optDef zβ rfl⟩
       refine ⟨⟨_, .no (c := false) (d := true) rfl (fun v w h => h), fun h w => optUndef h, fun zβ za zw zc => ?_⟩, ?_⟩
       ·exact wp_move rfl (zc.kn.ev rfl) ⟨_, rfl, Below.refl _ _, optDef zβ rfl⟩
       refine ⟨⟨_, .no (c := false) (d := true) rfl (fun v w h => h), fun h w => optUndef h, fun zβ za zw zc => ?_⟩, ?_⟩
       ·exact wp_move rfl (zc.kn.ev rfl) ⟨_, rfl, Below.refl _ _, optDef zβ rfl⟩
       refine ⟨⟨_, .no (c := false) (d := true) rfl (fun v w h => h), fun h w => optUndef h, fun zβ za zw zc => ?_⟩, ?_⟩
       ·exact nilCheck_ rfl ((evt za 39).trans (optVal (zc.dep 14 39 (by kernel_rfl)) rfl rfl)) ⟨_, rfl, Below.refl _ _, optDef zβ rfl⟩
       refine ⟨⟨_, .no (c := false) (d := true) rfl (fun v w h => h), fun h w => optUndef h, fun zβ za zw zc => ?_⟩, ?_⟩
       ·exact fld_67_2 rfl ((evt za 40).trans (optVal (zc.dep 15 40 (by kernel_rfl)) rfl rfl)) ⟨_, rfl, Below.refl _ _, optDef zβ rfl⟩
       refine ⟨⟨_, .no (c := false) (d := true) rfl (fun v w h => h), fun h w => optUndef h, fun zβ za zw zc => ?_⟩, ?_⟩
       ·exact ld_48 rfl ((evt za 41).trans (optVal (zc.dep 16 41 (by kernel_rfl)) rfl rfl)) (bkeeps zc.below _ _ hP8.c2) ⟨_, rfl, Below.refl _ _, optDef zβ rfl⟩
       refine ⟨⟨_, .no (c := false) (d := true) rfl (fun v w h => h), fun h w => optUndef h, fun zβ za zw zc => ?_⟩, ?_⟩
       ·exact wp_move rfl (zc.kn.ev rfl) ⟨_, rfl, Below.refl _ _, optDef zβ rfl⟩
       refine ⟨⟨_, .no (c := false) (d := true) rfl (fun v w h => h), fun h w => optUndef h, fun zβ za zw zc => ?_⟩, ?_⟩
       ·exact ix_48 (k := x.v) rfl ((evt za 42).trans (optVal (zc.dep 17 42 (by kernel_rfl)) rfl rfl)) rfl ((evt za 43).trans (optVal (zc.dep 18 43 (by kernel_rfl)) rfl rfl)) (by first | omega | (have zz := zβ; simp only [Bool.and_eq_true, Bool.or_eq_true, Bool.true_and, Bool.not_eq_true', Bool.or_eq_false_iff, Bool.and_eq_false_iff, beq_eq_false_iff_ne, ne_eq, beq_iff_eq, decide_eq_true_eq, decide_eq_false_iff_not, bne_iff_ne, bne_eq_false_iff_eq] at zz; omega)) ⟨_, rfl, Below.refl _ _, optDef zβ rfl⟩
       refine ⟨⟨_, .no (c := false) (d := true) rfl (fun v w h => h), fun h w => optUndef h, fun zβ za zw zc => ?_⟩, ?_⟩
       ·exact ld_3 rfl ((evt za 44).trans (optVal (zc.dep 19 44 (by kernel_rfl)) rfl rfl)) (bkeeps zc.below _ _ hcv9) ⟨_, rfl, Below.refl _ _, optDef zβ rfl⟩
       refine ⟨⟨_, .no (c := false) (d := true) rfl (fun v w h => h), fun h w => optUndef h, fun zβ za zw zc => ?_⟩, ?_⟩
       ·exact wp_call (by kernel_rfl) rfl (hv2 ((evt za 38).trans (optVal (zc.dep 13 38 (by kernel_rfl)) rfl rfl)) ((evt za 45).trans (optVal (zc.dep 20 45 (by kernel_rfl)) rfl rfl))) (rtop_any κ d _ g S8 _ lc st.N _ uc x.U vb vc st.V _ (st.V x.v - 1) (by rw [hUx]; exact (PR.below hP9 zc.below)) hRx (by omega) (by omega)) (fun v w' h => ⟨v, rfl, h.2, optDef zβ h.1⟩)
       refine ⟨⟨_, .no (c := false) (d := true) rfl (fun v w h => h), fun h w => optUndef h, fun zβ za zw zc => ?_⟩, ?_⟩
       ·exact ix_65 (k := (κ (st.V x.v - 1))) rfl ((evt za 37).trans (optVal (zc.dep 12 37 (by kernel_rfl)) rfl rfl)) rfl ((evt za 46).trans (optVal (zc.dep 21 46 (by kernel_rfl)) rfl rfl)) (by first | omega | (have zz := zβ; simp only [Bool.and_eq_true, Bool.or_eq_true, Bool.true_and, Bool.not_eq_true', Bool.or_eq_false_iff, Bool.and_eq_false_iff, beq_eq_false_iff_ne, ne_eq, beq_iff_eq, decide_eq_true_eq, decide_eq_false_iff_not, bne_iff_ne, bne_eq_false_iff_eq] at zz; omega)) ⟨_, rfl, Below.refl _ _, optDef zβ rfl⟩
       refine ⟨⟨_, .no (c := false) (d := true) rfl (fun v w h => h), fun h w => optUndef h, fun zβ za zw zc => ?_⟩, ?_⟩
       ·exact fld_69_0 rfl ((evt za 47).trans (optVal (zc.dep 22 47 (by kernel_rfl)) rfl rfl)) ⟨_, rfl, Below.refl _ _, optDef zβ rfl⟩
       refine ⟨⟨_, .no (c := false) (d := true) rfl (fun v w h => h), fun h w => optUndef h, fun zβ za zw zc => ?_⟩, ?_⟩
       ·exact ld_3 rfl ((evt za 48).trans (optVal (zc.dep 23 48 (by kernel_rfl)) rfl rfl)) (bkeeps zc.below _ _ (bkeeps (Below.refl _ _) _ _ (hcP ((κ (st.V x.v - 1))) (by first | omega | (have zz := zβ; simp only [Bool.and_eq_true, Bool.or_eq_true, Bool.true_and, Bool.not_eq_true', Bool.or_eq_false_iff, Bool.and_eq_false_iff, beq_eq_false_iff_ne, ne_eq, beq_iff_eq, decide_eq_true_eq, decide_eq_false_iff_not, bne_iff_ne, bne_eq_false_iff_eq] at zz; omega))).1)) ⟨_, rfl, Below.refl _ _, optDef zβ rfl⟩
       refine ⟨⟨_, .no (c := false) (d := true) rfl (fun v w h => h), fun h w => optUndef h, fun zβ za zw zc => ?_⟩, ?_⟩
       ·exact wp_move rfl (zc.kn.ev rfl) ⟨_, rfl, Below.refl _ _, optDef zβ rfl⟩
       refine ⟨⟨_, .no (c := false) (d := true) rfl (fun v w h => h), fun h w => optUndef h, fun zβ za zw zc => ?_⟩, ?_⟩
       ·exact subb_3 rfl (zc.kn.ev rfl) ((evt za 50).trans (optVal (zc.dep 25 50 (by kernel_rfl)) rfl rfl)) (wrap_eq (by omega) (by omega) (by omega)) ⟨_, rfl, Below.refl _ _, optDef zβ rfl⟩
       refine ⟨⟨_, .no (c := false) (d := true) rfl (fun v w h => h), fun h w => optUndef h, fun zβ za zw zc => ?_⟩, ?_⟩
       ·exact eql_3 rfl ((evt za 49).trans (optVal (zc.dep 24 49 (by kernel_rfl)) rfl rfl)) ((evt za 51).trans (optVal (zc.dep 26 51 (by kernel_rfl)) rfl rfl)) ⟨_, rfl, Below.refl _ _, optDef zβ rfl⟩
       refine ⟨⟨true, .none rfl, fun h w => optUndef h, fun zβ za zw zc => ?_⟩, ?_⟩
       ·exact wp_pickF rfl ((evt za 33).trans (optVal (zc.dep 8 33 (by kernel_rfl)) rfl rfl)) ((evt za 52).trans (optVal (zc.dep 27 52 (by kernel_rfl)) rfl rfl)) ⟨_, rfl, Below.refl _ _, optDef zβ rfl⟩
       exact trivial
      ·intro za w23 zh hb24 zu
       have zh := zh.cons (d := 53) (v := .bool ((((pget st.N ((κ (st.V x.v - 1)))).fn : Int) == (((-1) - ((x.v : Nat) : Int)) : Int)))) (optVal (zu 28 53 (by kernel_rfl)) rfl rfl)
       clear zu
       refine WE.go zh ?_
       refine WE.next ?_
       refine WC.cond rfl (fun h25 => ?_) (fun h25 => ?_)
       ·have h25 : ((pget st.N ((κ (st.V x.v - 1)))).fn : Int) = (((-1) - ((x.v : Nat) : Int)) : Int) := by simpa using h25
        have hself : (pget st.N (κ (st.V x.v - 1))).fn = -1 - (x.v : Int) := by omega
        refine WC.exit (WE.thenExit (WE.blockIs rfl (WE.next (WC.region (WL.mv rfl rfl rfl rfl rfl ?_)))))
        refine WL.val (.int .i64 ((((x.v + 1) : Nat) : Int))) rfl rfl rfl (fun za zC zh zk => addb_3 rfl (zh.ev rfl) (zh.ev rfl) (wrap_eq (by omega) (by omega) (by omega)) zk) ?_
        refine WL.asg rfl rfl rfl rfl rfl (WL.nil ?_)
        have hC26 := Chg.trans hCx (.ofBelow hb24)
        refine WE.round (⟨x.v + 1, x.U, x.n, x.L, x.ra, x.rc⟩) ⟨rfl, rfl, rfl, rfl, rfl, rfl, rfl, rfl, trivial⟩ ?_ ?_
        ·have hb27 : Below w.heap.size w w23 := (bstep hb11 hb24)
         have ho28 := ho12.below hb24
         have ho29 := ho13.below hb24
         have ho30 := ho14.below hb24
         exact ⟨(by (try dsimp only); omega), hRx, (by show bindsM st κ (msz ms) (mdp ms) (x.v + 1) = _; rw [bindsM, hbx]; dsimp only; rw [if_neg hz9, if_pos hself]), hownx, (by (try dsimp only); omega), hC26, hb27, ho28, ho29, ho30⟩
        ·(try dsimp only); omega
       ·have h25 : ¬ (((pget st.N ((κ (st.V x.v - 1)))).fn : Int) = (((-1) - ((x.v : Nat) : Int)) : Int)) := by simpa using h25
        have hself : ¬ (pget st.N (κ (st.V x.v - 1))).fn = -1 - (x.v : Int) := by omega
        refine WC.skip (WE.next (WC.seq (WC.region (WL.mv rfl rfl rfl rfl rfl (WL.mv rfl rfl rfl rfl rfl ?_)))))
        refine WL.val _ rfl rfl rfl (fun za zC zh zk => nilCheck_ rfl (zh.ev rfl) zk) ?_
        refine WL.val _ rfl rfl rfl (fun za zC zh zk => fld_67_2 rfl (zh.ev rfl) zk) ?_
        have hc31 := bkeeps hb24 _ _ hP8.c2
        refine WL.val _ rfl rfl rfl (fun za zC zh zk => ld_48 rfl (zh.ev rfl) hc31 zk) ?_
        refine WL.mv rfl rfl rfl rfl rfl ?_
        refine WL.val _ rfl rfl rfl (fun za zC zh zk => ix_48 (k := x.v) rfl (zh.ev rfl) rfl (zh.ev rfl) (by first | omega | (simp; omega)) zk) ?_
        have hc32 := bkeeps hb24 _ _ hcv9
        refine WL.val _ rfl rfl rfl (fun za zC zh zk => ld_3 rfl (zh.ev rfl) hc32 zk) ?_
        have ho33 := hP9.below hb24
        refine WL.call rfl rfl rfl (fun za zh zC => wp_call (by kernel_rfl) rfl (hv2 (zh.ev rfl) (zh.ev rfl))) (rtop_any κ d _ g S8 _ lc st.N _ uc x.U vb vc st.V _ (st.V x.v - 1) (by rw [hUx]; exact ho33) hRx (by omega) (by omega)) ?_
        rintro _ w34 ⟨rfl, hb_⟩
        refine WL.asg rfl rfl rfl rfl rfl (WL.nil (WE.next (WC.seq (WC.seq ?_))))
        have hb36 : Below w10.heap.size w10 w34 := (bstep hb24 hb_)
        have ho35 := ho13.below hb36
        refine WC.opt [(true, .val (.pointer (some ⟨gm, 0, none⟩))), (true, .val (.pointer (some ⟨gm, 0, none⟩))), (true, .val (.pointer (some ⟨gm, 0, none⟩))), (true, .val (.slice ((some ⟨zb, 0, none⟩)) ms.length zc)), (true, .val (.int .i64 ((((κ (st.V x.v - 1)) : Nat) : Int)))), (true, .val (.pointer (some ⟨zb, 0 + ((κ (st.V x.v - 1))), none⟩))), (true, .val (.int .i64 ((szI (mget ms ((κ (st.V x.v - 1)))))))), (true, .val (.bool ((decide ((300 : Int) < ((szI (mget ms ((κ (st.V x.v - 1))))) : Int)))))), (true, .val (.bool ((decide ((300 : Int) < ((szI (mget ms ((κ (st.V x.v - 1))))) : Int)))))), ((true && !(decide ((300 : Int) < ((szI (mget ms ((κ (st.V x.v - 1))))) : Int)))), .val (.pointer (some ⟨gm, 0, none⟩))), ((true && !(decide ((300 : Int) < ((szI (mget ms ((κ (st.V x.v - 1))))) : Int)))), .val (.pointer (some ⟨gm, 0, none⟩))), ((true && !(decide ((300 : Int) < ((szI (mget ms ((κ (st.V x.v - 1))))) : Int)))), .val (.pointer (some ⟨gm, 1, none⟩))), ((true && !(decide ((300 : Int) < ((szI (mget ms ((κ (st.V x.v - 1))))) : Int)))), .val (.slice ((some ⟨db, 0, none⟩)) ms.length dc)), ((true && !(decide ((300 : Int) < ((szI (mget ms ((κ (st.V x.v - 1))))) : Int)))), .val (.int .i64 ((((κ (st.V x.v - 1)) : Nat) : Int)))), ((true && !(decide ((300 : Int) < ((szI (mget ms ((κ (st.V x.v - 1))))) : Int)))), .val (.pointer (some ⟨db, 0 + ((κ (st.V x.v - 1))), none⟩))), ((true && !(decide ((300 : Int) < ((szI (mget ms ((κ (st.V x.v - 1))))) : Int)))), .val (.int .i64 ((((mget ms ((κ (st.V x.v - 1)))).dp : Nat) : Int)))), ((true && !(decide ((300 : Int) < ((szI (mget ms ((κ (st.V x.v - 1))))) : Int)))), .val (.bool ((decide ((30 : Int) < ((((mget ms ((κ (st.V x.v - 1)))).dp : Nat) : Int) : Int)))))), (true, .val (.bool (((decide ((300 : Int) < ((szI (mget ms ((κ (st.V x.v - 1))))) : Int))) || (decide ((30 : Int) < ((((mget ms ((κ (st.V x.v - 1)))).dp : Nat) : Int) : Int)))))))] [(0, .slice a l.length c), (4, .pointer (some ⟨g, 0, none⟩)), (5, .pointer (some ⟨gm, 0, none⟩)), (6, .bool true), (7, .slice x.ra x.n x.rc), (8, .int .i64 (((x.v : Nat) : Int))), (9, .int .i64 ((((κ (st.V x.v - 1)) : Nat) : Int))), (12, .bool ((!(wideB l)))), (20, .bool false), (22, .bool ((decide ((((x.v : Nat) : Int) : Int) < (96 : Int))))), (53, .bool ((((pget st.N ((κ (st.V x.v - 1)))).fn : Int) == (((-1) - ((x.v : Nat) : Int)) : Int))))] ⟨rfl, rfl, rfl, rfl, rfl, rfl, rfl, rfl, rfl, rfl, rfl, trivial⟩ (by kernel_rfl) (by kernel_rfl) (by kernel_rfl) ?_ ?_
        ·refine ⟨⟨true, .none rfl, fun h w => optUndef h, fun zβ za zw zc => ?_⟩, ?_⟩
         ·exact wp_move rfl (zc.kn.ev rfl) ⟨_, rfl, Below.refl _ _, optDef zβ rfl⟩
         refine ⟨⟨true, .none rfl, fun h w => optUndef h, fun zβ za zw zc => ?_⟩, ?_⟩
         ·exact nilCheck_ rfl ((evt za 63).trans (optVal (zc.dep 0 63 (by kernel_rfl)) rfl rfl)) ⟨_, rfl, Below.refl _ _, optDef zβ rfl⟩
         refine ⟨⟨true, .none rfl, fun h w => optUndef h, fun zβ za zw zc => ?_⟩, ?_⟩
         ·exact fld_71_0 rfl ((evt za 64).trans (optVal (zc.dep 1 64 (by kernel_rfl)) rfl rfl)) ⟨_, rfl, Below.refl _ _, optDef zβ rfl⟩
         refine ⟨⟨true, .none rfl, fun h w => optUndef h, fun zβ za zw zc => ?_⟩, ?_⟩
         ·exact ld_48 rfl ((evt za 65).trans (optVal (zc.dep 2 65 (by kernel_rfl)) rfl rfl)) (bkeeps zc.below _ _ ho35.c0) ⟨_, rfl, Below.refl _ _, optDef zβ rfl⟩
         refine ⟨⟨true, .none rfl, fun h w => optUndef h, fun zβ za zw zc => ?_⟩, ?_⟩
         ·exact wp_move rfl (zc.kn.ev rfl) ⟨_, rfl, Below.refl _ _, optDef zβ rfl⟩
         refine ⟨⟨true, .none rfl, fun h w => optUndef h, fun zβ za zw zc => ?_⟩, ?_⟩
         ·exact ix_48 (k := (κ (st.V x.v - 1))) rfl ((evt za 66).trans (optVal (zc.dep 3 66 (by kernel_rfl)) rfl rfl)) rfl ((evt za 67).trans (optVal (zc.dep 4 67 (by kernel_rfl)) rfl rfl)) (by first | omega | (simp; omega)) ⟨_, rfl, Below.refl _ _, optDef zβ rfl⟩
         refine ⟨⟨true, .none rfl, fun h w => optUndef h, fun zβ za zw zc => ?_⟩, ?_⟩
         ·exact ld_3 rfl ((evt za 68).trans (optVal (zc.dep 5 68 (by kernel_rfl)) rfl rfl)) (bkeeps zc.below _ _ (ho35.sz (by omega))) ⟨_, rfl, Below.refl _ _, optDef zβ rfl⟩
         refine ⟨⟨true, .none rfl, fun h w => optUndef h, fun zβ za zw zc => ?_⟩, ?_⟩
         ·exact gtr_3 rfl ((evt za 69).trans (optVal (zc.dep 6 69 (by kernel_rfl)) rfl rfl)) (zc.kn.ev rfl) ⟨_, rfl, Below.refl _ _, optDef zβ rfl⟩
         refine ⟨⟨true, .none rfl, fun h w => optUndef h, fun zβ za zw zc => ?_⟩, ?_⟩
         ·exact wp_move rfl ((evt za 70).trans (optVal (zc.dep 7 70 (by kernel_rfl)) rfl rfl)) ⟨_, rfl, Below.refl _ _, optDef zβ rfl⟩
         refine ⟨⟨_, .no (c := (decide ((300 : Int) < ((szI (mget ms ((κ (st.V x.v - 1))))) : Int)))) (d := true) rfl (fun v w h => h), fun h w => optUndef h, fun zβ za zw zc => ?_⟩, ?_⟩
         ·exact wp_move rfl (zc.kn.ev rfl) ⟨_, rfl, Below.refl _ _, optDef zβ rfl⟩
         refine ⟨⟨_, .no (c := (decide ((300 : Int) < ((szI (mget ms ((κ (st.V x.v - 1))))) : Int)))) (d := true) rfl (fun v w h => h), fun h w => optUndef h, fun zβ za zw zc => ?_⟩, ?_⟩
         ·exact nilCheck_ rfl ((evt za 72).trans (optVal (zc.dep 9 72 (by kernel_rfl)) rfl zβ)) ⟨_, rfl, Below.refl _ _, optDef zβ rfl⟩
         refine ⟨⟨_, .no (c := (decide ((300 : Int) < ((szI (mget ms ((κ (st.V x.v - 1))))) : Int)))) (d := true) rfl (fun v w h => h), fun h w => optUndef h, fun zβ za zw zc => ?_⟩, ?_⟩
         ·exact fld_71_1 rfl ((evt za 73).trans (optVal (zc.dep 10 73 (by kernel_rfl)) rfl zβ)) ⟨_, rfl, Below.refl _ _, optDef zβ rfl⟩
         refine ⟨⟨_, .no (c := (decide ((300 : Int) < ((szI (mget ms ((κ (st.V x.v - 1))))) : Int)))) (d := true) rfl (fun v w h => h), fun h w => optUndef h, fun zβ za zw zc => ?_⟩, ?_⟩
         ·exact ld_48 rfl ((evt za 74).trans (optVal (zc.dep 11 74 (by kernel_rfl)) rfl zβ)) (bkeeps zc.below _ _ ho35.c1) ⟨_, rfl, Below.refl _ _, optDef zβ rfl⟩
         refine ⟨⟨_, .no (c := (decide ((300 : Int) < ((szI (mget ms ((κ (st.V x.v - 1))))) : Int)))) (d := true) rfl (fun v w h => h), fun h w => optUndef h, fun zβ za zw zc => ?_⟩, ?_⟩
         ·exact wp_move rfl (zc.kn.ev rfl) ⟨_, rfl, Below.refl _ _, optDef zβ rfl⟩
         refine ⟨⟨_, .no (c := (decide ((300 : Int) < ((szI (mget ms ((κ (st.V x.v - 1))))) : Int)))) (d := true) rfl (fun v w h => h), fun h w => optUndef h, fun zβ za zw zc => ?_⟩, ?_⟩
         ·exact ix_48 (k := (κ (st.V x.v - 1))) rfl ((evt za 75).trans (optVal (zc.dep 12 75 (by kernel_rfl)) rfl zβ)) rfl ((evt za 76).trans (optVal (zc.dep 13 76 (by kernel_rfl)) rfl zβ)) (by first | omega | (have zz := zβ; simp only [Bool.and_eq_true, Bool.or_eq_true, Bool.true_and, Bool.not_eq_true', Bool.or_eq_false_iff, Bool.and_eq_false_iff, beq_eq_false_iff_ne, ne_eq, beq_iff_eq, decide_eq_true_eq, decide_eq_false_iff_not, bne_iff_ne, bne_eq_false_iff_eq] at zz; omega)) ⟨_, rfl, Below.refl _ _, optDef zβ rfl⟩
         refine ⟨⟨_, .no (c := (decide ((300 : Int) < ((szI (mget ms ((κ (st.V x.v - 1))))) : Int)))) (d := true) rfl (fun v w h => h), fun h w => optUndef h, fun zβ za zw zc => ?_⟩, ?_⟩
         ·exact ld_3 rfl ((evt za 77).trans (optVal (zc.dep 14 77 (by kernel_rfl)) rfl zβ)) (bkeeps zc.below _ _ (ho35.dp (by omega))) ⟨_, rfl, Below.refl _ _, optDef zβ rfl⟩
         refine ⟨⟨_, .no (c := (decide ((300 : Int) < ((szI (mget ms ((κ (st.V x.v - 1))))) : Int)))) (d := true) rfl (fun v w h => h), fun h w => optUndef h, fun zβ za zw zc => ?_⟩, ?_⟩
         ·exact gtr_3 rfl ((evt za 78).trans (optVal (zc.dep 15 78 (by kernel_rfl)) rfl zβ)) (zc.kn.ev rfl) ⟨_, rfl, Below.refl _ _, optDef zβ rfl⟩
         refine ⟨⟨true, .none rfl, fun h w => optUndef h, fun zβ za zw zc => ?_⟩, ?_⟩
         ·exact wp_or rfl ((evt za 71).trans (optVal (zc.dep 8 71 (by kernel_rfl)) rfl rfl)) (fun hp => ((evt za 79).trans (optVal (zc.dep 16 79 (by kernel_rfl)) rfl (bMkN zβ hp)))) ⟨_, rfl, Below.refl _ _, optDef zβ rfl⟩
         exact trivial
        ·intro za w37 zh hb38 zu
         have zh := zh.cons (d := 80) (v := .bool (((decide ((300 : Int) < ((szI (mget ms ((κ (st.V x.v - 1))))) : Int))) || (decide ((30 : Int) < ((((mget ms ((κ (st.V x.v - 1)))).dp : Nat) : Int) : Int)))))) (optVal (zu 17 80 (by kernel_rfl)) rfl rfl)
         clear zu
         refine WE.go zh ?_
         refine WE.next ?_
         refine WC.cond rfl (fun h39 => ?_) (fun h39 => ?_)
         ·have h39 : ((300 : Int) < ((szI (mget ms ((κ (st.V x.v - 1))))) : Int)) ∨ ((30 : Int) < ((((mget ms ((κ (st.V x.v - 1)))).dp : Nat) : Int) : Int)) := by simpa using h39
          have hlong : 300 < msz ms (κ (st.V x.v - 1)) ∨ 30 < mdp ms (κ (st.V x.v - 1)) := by show 300 < (mget ms (κ (st.V x.v - 1))).sz ∨ 30 < (mget ms (κ (st.V x.v - 1))).dp; omega
          refine WC.seq (WC.region (WL.asg rfl rfl rfl rfl rfl (WL.asg rfl rfl rfl rfl rfl ?_)))
          refine WL.nil (WE.sub (K' := [(0, .slice a l.length c), (2, .slice none 0 0), (3, .int .i64 3), (4, .pointer (some ⟨g, 0, none⟩)), (5, .pointer (some ⟨gm, 0, none⟩)), (6, .bool true), (7, .slice x.ra x.n x.rc), (8, .int .i64 (((x.v : Nat) : Int))), (9, .int .i64 ((((κ (st.V x.v - 1)) : Nat) : Int))), (12, .bool ((!(wideB l)))), (20, .bool false), (22, .bool ((decide ((((x.v : Nat) : Int) : Int) < (96 : Int))))), (53, .bool ((((pget st.N ((κ (st.V x.v - 1)))).fn : Int) == (((-1) - ((x.v : Nat) : Int)) : Int)))), (80, .bool (((decide ((300 : Int) < ((szI (mget ms ((κ (st.V x.v - 1))))) : Int))) || (decide ((30 : Int) < ((((mget ms ((κ (st.V x.v - 1)))).dp : Nat) : Int) : Int))))))]) ⟨rfl, rfl, rfl, rfl, rfl, rfl, rfl, rfl, rfl, rfl, rfl, rfl, rfl, rfl, trivial⟩ ?_)
          refine WE.next (WC.ret (WE.thenRet (WE.blockRet (WE.thenRet (WE.thenRet (WE.blockRet (WE.thenRet (WE.ret2 rfl rfl rfl ?_))))))))
          have hb40 : Below w.heap.size w w37 := (bstep (bstep hb11 hb36) hb38)
          have hbn : bindsM st κ (msz ms) (mdp ms) 96 = none := bindsM_none (v := x.v + 1) (by omega) (by rw [bindsM, hbx]; dsimp only; rw [if_neg hz9, if_neg hself, if_pos hlong])
          exact ⟨_, rfl, ⟨[], none, 0, 3, rfl, .inr ⟨hW, _, hsv, by unfold resOf; dsimp only; rw [hbn]; rfl⟩, fun i hi => by simp at hi, Nat.le_refl _, by unfold maxLen; omega, by decide⟩, hb40⟩
         ·have h39 : ¬ (((300 : Int) < ((szI (mget ms ((κ (st.V x.v - 1))))) : Int)) ∨ ((30 : Int) < ((((mget ms ((κ (st.V x.v - 1)))).dp : Nat) : Int) : Int))) := by simpa using h39
          have hlong : ¬ (300 < msz ms (κ (st.V x.v - 1)) ∨ 30 < mdp ms (κ (st.V x.v - 1))) := by show ¬ (300 < (mget ms (κ (st.V x.v - 1))).sz ∨ 30 < (mget ms (κ (st.V x.v - 1))).dp); omega
          refine WC.skip (WE.next ?_)
          have hb42 : Below w10.heap.size w10 w37 := (bstep hb36 hb38)
          have hC41 := Chg.trans hCx (.ofBelow hb42)
          have ho43 := ho14.below hb42
          have hCt := hC41
          have howt : ∀ q, obk x.ra x.n x.rc = some q → q < w37.heap.size := ho43.lt
          refine WC.region (WL.mv rfl rfl rfl rfl rfl (WL.mv rfl rfl rfl rfl rfl (WL.mv rfl rfl rfl rfl rfl (WL.mv rfl rfl rfl rfl rfl ?_))))
          have hb45 : Below w23.heap.size w23 w37 := (bstep hb_ hb38)
          have ho44 := ho33.below hb45
          have hubZ : Z ub := hPZ ub (.inr (.inr (.inr (.inl rfl))))
          have hubw := hZl ub hubZ
          have hubB := (hZ ub hubZ).1
          have humb : gm ≠ ub := fun e => (hZ ub hubZ).2 (.inr (.inr e.symm))
          have huzb : zb ≠ ub := fun e => (hZ ub hubZ).2 (.inl e.symm)
          have hudb : db ≠ ub := fun e => (hZ ub hubZ).2 (.inr (.inl e.symm))
          have ho46 := ho35.below hb38
          have hb48 : Below w.heap.size w w37 := (bstep hb11 hb42)
          have hb47 : Below w.heap.size w w37 := hb48
          refine WL.call rfl rfl rfl (fun za zh zC => wp_call (by kernel_rfl) rfl (hv2 (zh.ev rfl) (zh.ev rfl))) (rterm_any κ d (msz ms) (mdp ms) st.N st.V g S8 _ lc ub uc vb vc hk hNo (by omega) (by omega) (fun i hi => hgo.sy.at_ hi) hms (mdp ms (κ (st.V x.v - 1))) x.U (κ (st.V x.v - 1)) _ (by rw [hkk]; exact Nat.le_refl _) ho44 hUx hRx hkl) ?_
          rintro vt49 w56 ⟨hn50, ⟨U51, ⟨hR52, hU55⟩, hP53⟩, hc54⟩
          have hC57 := Chg.trans hC41 (Chg.mono (S' := Z) hc54 (fun b e => by rw [show b = ub from e]; exact hubZ))
          have hM58 := ho46.chg hc54 (fun e => humb e) (fun e => huzb e) (fun e => hudb e)
          have hr59 := ho43.chg hc54 (fun b q e => by have z := hownx b q; (try dsimp only at e); omega) (fun b q e => by have z := q.1; (try dsimp only at e); omega)
          have hb60 := chg_below hb47 hc54 (fun b hb e => by (try dsimp only at e); omega)
          obtain ⟨_, fa, fc, rfl, _⟩ := hn50.form
          refine WL.val (.agg #[.int .i64 (((x.v : Nat) : Int)), .int .i64 ((tmF st.N κ (mdp ms (κ (st.V x.v - 1))) (κ (st.V x.v - 1))).f), .slice fa ((tmF st.N κ (mdp ms (κ (st.V x.v - 1))) (κ (st.V x.v - 1))).args.length) fc]) rfl rfl rfl (fun za zC zh zk => build_41_0_1 rfl (zh.ev rfl) (zh.ev rfl) zk) ?_
          refine WL.step (post := NewRow w56 41 #[.int .i64 (((x.v : Nat) : Int)), .int .i64 ((tmF st.N κ (mdp ms (κ (st.V x.v - 1))) (κ (st.V x.v - 1))).f), .slice fa ((tmF st.N κ (mdp ms (κ (st.V x.v - 1))) (κ (st.V x.v - 1))).args.length) fc] 1) rfl rfl rfl (fun za zC zh zk => row_24_1 rfl (zh.ev rfl) (zk _ _ (newRow _ _ _ _))) ?_
          rintro _ w61 ⟨g62, rfl, hg63, hB64, hb65, hz66⟩
          have hl67 : w.heap.size ≤ g62 := by have z2 := (hb60).size; omega
          have hl68 : w56.heap.size ≤ g62 := by omega
          have ho69 := hr59.below hb65
          have ho70 := hP53.below hb65
          have ho71 := hM58.below hb65
          have hC72 := Chg.trans hC57 (.ofBelow hb65)
          have hb74 : Below w.heap.size w w61 := (bstep hb60 hb65)
          have hb73 : Below w.heap.size w w61 := hb74
          have hWt : w37.heap.size ≤ w61.heap.size := (Nat.le_trans hc54.size hb65.size)
          have hin9 : eltB.In (fun b => w37.heap.size ≤ b) w61 ⟨(x.v : Int), (tmF st.N κ (mdp ms (κ (st.V x.v - 1))) (κ (st.V x.v - 1)))⟩ [.int .i64 ((x.v : Nat) : Int), .int .i64 (tmF st.N κ (mdp ms (κ (st.V x.v - 1))) (κ (st.V x.v - 1))).f, .slice fa (tmF st.N κ (mdp ms (κ (st.V x.v - 1))) (κ (st.V x.v - 1))).args.length fc] := ⟨_, _, rfl, by unfold I64; (try dsimp only); omega, (InT.below hb65 hn50)⟩
          have hWt2 : w4.heap.size ≤ w37.heap.size := hCt.size
          refine WL.step (post := fun v w' => ∃ ra rc, v = .slice ra (x.n + 1) rc ∧ (RowD eltB (fun b => w4.heap.size ≤ b ∧ obk ra ((x.n + 1)) rc ≠ some b) w' 41 ra rc ((x.n + 1)) ((x.L ++ [⟨(x.v : Int), (tmF st.N κ (mdp ms (κ (st.V x.v - 1))) (κ (st.V x.v - 1)))⟩]))) ∧ Chg (fun b => obk x.ra x.n x.rc = some b) w61 w' ∧ ∀ q, obk ra ((x.n + 1)) rc = some q → w4.heap.size ≤ q) rfl rfl rfl (fun za zC zh zk => wp_appD (E := eltB) (S2 := fun b => w37.heap.size ≤ b) (y := ⟨(x.v : Int), (tmF st.N κ (mdp ms (κ (st.V x.v - 1))) (κ (st.V x.v - 1)))⟩) (size := 3) (bytes := 40) (z := .agg #[.int .i64 0, .int .i64 0, .slice none 0 0]) rfl Try.underlying24 (by kernel_rfl) rfl (by decide) rfl (zh.ev rfl) (zh.ev rfl) ho69 hB64 hin9 (fun b q q2 => by have z := howt b q2; (try dsimp only at q); omega) (by omega) (by omega) (fun ra rc w' h1 h2 h3 => zk _ _ ⟨ra, rc, rfl, h1.mono (fun b q _ => by
            obtain ⟨q1, q2⟩ := q
            rcases q1 with q1 | q1
            ·exact ⟨q1.1, fun e9 => by rcases h3 b e9 with z | z; exact q1.2 z; omega⟩
            ·(try dsimp only at q1)
             exact ⟨by omega, fun e9 => by rcases h3 b e9 with z | z; (have z2 := howt b z; omega); omega⟩) (fun b q => q.2), h2, fun q e9 => by rcases h3 q e9 with z | z; exact hownx q z; omega⟩)) ?_
          rintro _ w75 ⟨ra76, rc77, rfl, hr78, hc79, ho80⟩
          have hC81 := chg_fresh hC72 hc79 (fun b e => .inr (hownx b e))
          have hM82 := ho71.chg hc79 (fun e => by have z := hownx _ e; omega) (fun e => by have z := hownx _ e; omega) (fun e => by have z := hownx _ e; omega)
          have hP83 := ho70.chg hc79 (fun b q e => by have z := hownx _ e; have z2 := hZl b (hPZ b (by rw [hU8, ← hU55]; exact q)); omega)
          have hb84 := chg_below hb73 hc79 (fun b hb e => by have z := hownx b e; omega)
          refine WL.asg rfl rfl rfl rfl rfl ?_
          refine WL.nil (WE.sub (K' := [(0, .slice a l.length c), (4, .pointer (some ⟨g, 0, none⟩)), (5, .pointer (some ⟨gm, 0, none⟩)), (6, .bool true), (7, .slice ra76 ((x.n + 1)) rc77), (8, .int .i64 (((x.v : Nat) : Int))), (9, .int .i64 ((((κ (st.V x.v - 1)) : Nat) : Int))), (12, .bool ((!(wideB l)))), (20, .bool false), (22, .bool ((decide ((((x.v : Nat) : Int) : Int) < (96 : Int))))), (53, .bool ((((pget st.N ((κ (st.V x.v - 1)))).fn : Int) == (((-1) - ((x.v : Nat) : Int)) : Int)))), (80, .bool (((decide ((300 : Int) < ((szI (mget ms ((κ (st.V x.v - 1))))) : Int))) || (decide ((30 : Int) < ((((mget ms ((κ (st.V x.v - 1)))).dp : Nat) : Int) : Int))))))]) ⟨rfl, rfl, rfl, rfl, rfl, rfl, rfl, rfl, rfl, rfl, rfl, rfl, trivial⟩ ?_)
          refine WE.blockNormal (WE.next (WC.region (WL.mv rfl rfl rfl rfl rfl ?_)))
          refine WL.val (.int .i64 ((((x.v + 1) : Nat) : Int))) rfl rfl rfl (fun za zC zh zk => addb_3 rfl (zh.ev rfl) (zh.ev rfl) (wrap_eq (by omega) (by omega) (by omega)) zk) ?_
          refine WL.asg rfl rfl rfl rfl rfl (WL.nil ?_)
          have hN85 : RX w75 g Z U51 st.N st.V := ⟨S8, _, lc, _, uc, vb, vc, by rw [hU55]; exact hP83, hU55, fun b q => hPZ b (by rw [hU8, ← hU55]; exact q), fun b q => Nat.lt_of_lt_of_le (hZl b q) (hC81).size⟩
          refine WE.round (⟨x.v + 1, U51, (x.n + 1), (x.L ++ [⟨(x.v : Int), (tmF st.N κ (mdp ms (κ (st.V x.v - 1))) (κ (st.V x.v - 1)))⟩]), ra76, rc77⟩) ⟨rfl, rfl, rfl, rfl, rfl, rfl, rfl, rfl, trivial⟩ ?_ ?_
          ·exact ⟨(by (try dsimp only); omega), hR52, (by show bindsM st κ (msz ms) (mdp ms) (x.v + 1) = _; rw [bindsM, hbx]; dsimp only; rw [if_neg hz9, if_neg hself, if_neg hlong]), ho80, (by (try dsimp only); omega), hC81, hb84, hN85, hM82, hr78⟩
          ·(try dsimp only); omega
    ·have h15 : ¬ ((((x.v : Nat) : Int) : Int) < (96 : Int)) := by simpa using h15
     refine WC.exit (WE.thenExit (WE.thenExit (WE.blockIs rfl (WE.next (WC.seq (WC.region (WL.mv rfl rfl rfl rfl rfl (WL.asg rfl rfl rfl rfl rfl (WL.asg rfl rfl rfl rfl rfl (WL.nil (WE.next (WC.ret (WE.ret2 rfl rfl rfl ?_)))))))))))))
     have hv9 : x.v = 96 := by omega
     rw [hv9] at hbx
     have hrr := ho14
     have hnn := hrr.len
     have hri := hrr.inRow
     exact ⟨_, rfl, ⟨x.L, x.ra, x.rc, 0, by rw [← hnn], .inr ⟨hW, _, hsv, by unfold resOf; dsimp only; rw [hbx]; rfl⟩, hrr.inRowT.mono (by decide) (fun b q _ => by rcases q with q | q; exact Nat.le_trans hw1 q.1; exact Nat.le_trans hw1 (hownx b q)), by omega, hri.2.2, by omega⟩, hb11⟩
end Go.Proofs.Ythhgidliopohcaa

/- Two terms: what variables become; whether there is a unifier: the program. -/
namespace Go.Proofs.Ythhgidliopohcaa
open Go.RowKit Go
set_option linter.unusedVariables false
set_option linter.unusedSimpArgs false
/-- Whether there is a unifier. -/
def CanIs (rv : Bool) (l : List (T × T)) (b : Bool) : Prop := (wideB l = false ∧ b = false) ∨ (wideB l = true ∧ ∃ o, SolveIs rv l o ∧ b = o.isSome)
set_option maxRecDepth 100000 in
theorem pterms_any (t s : T) (w : World) (v1 v2 : Value) (h1 : IsT w t v1) (h2 : IsT w s v2) :
  Calls Try.prog 9 #[v1, v2] w (Ret fun v' w' => (∃ bs a' c' e, v' = .tuple #[.slice a' bs.length c', .int .i64 e] ∧ PairsIs true [(t, s)] bs e ∧ InRow eltB (fun b => w.heap.size ≤ b) w' bs a' ∧ bs.length ≤ c' ∧ c' ≤ maxLen ∧ bs.length ≤ 96) ∧ Below w.heap.size w w') := by
 obtain ⟨_, a1, c1, rfl, _⟩ := h1.form
 obtain ⟨_, a2, c2, rfl, _⟩ := h2.form
 refine Calls.walk (l := [.agg #[.int .i64 t.f, .slice a1 t.args.length c1], .agg #[.int .i64 s.f, .slice a2 s.args.length c2]]) Try.func9 rfl (by kernel_rfl) ?_
 refine WC.sub (K' := [(0, .agg #[.int .i64 t.f, .slice a1 t.args.length c1]), (1, .agg #[.int .i64 s.f, .slice a2 s.args.length c2])]) ⟨rfl, rfl, trivial⟩ ?_
 refine WC.seq (WC.region ?_)
 refine WL.step (post := NewBlk w 32 #[.int .i64 t.f, .slice a1 t.args.length c1]) rfl rfl rfl (fun za zC zh zk => box_32 rfl (zh.ev rfl) (zk _ _ (newBlk _ _ _))) ?_
 rintro _ w1 ⟨g2, rfl, hg3, hB4, hb5, hz6⟩
 have hl7 : w.heap.size ≤ g2 := by omega
 refine WL.step (post := NewBlk w1 32 #[.int .i64 s.f, .slice a2 s.args.length c2]) rfl rfl rfl (fun za zC zh zk => box_32 rfl (zh.ev rfl) (zk _ _ (newBlk _ _ _))) ?_
 rintro _ w8 ⟨g9, rfl, hg10, hB11, hb12, hz13⟩
 have hl14 : g2 < g9 := by have z1 := hB4.lt; omega
 have hl15 : w.heap.size ≤ g9 := by have z2 := (hb5).size; omega
 refine WL.asg rfl rfl rfl rfl rfl (WL.asg rfl rfl rfl rfl rfl (WL.nil (WE.next (WC.seq (WC.region ?_)))))
 have hB16 := hB4.below hb12
 refine WL.val _ rfl rfl rfl (fun za zC zh zk => ld_32 rfl (zh.ev rfl) ((hB16.cell 0).trans rfl) ((hB16.cell 1).trans rfl) zk) ?_
 refine WL.val _ rfl rfl rfl (fun za zC zh zk => ld_32 rfl (zh.ev rfl) ((hB11.cell 0).trans rfl) ((hB11.cell 1).trans rfl) zk) ?_
 refine WL.val (.agg #[.int .i64 t.f, .slice a1 t.args.length c1, .int .i64 s.f, .slice a2 s.args.length c2]) rfl rfl rfl (fun za zC zh zk => build_33_0_1 rfl (zh.ev rfl) (zh.ev rfl) zk) ?_
 refine WL.step (post := NewRow w8 33 #[.int .i64 t.f, .slice a1 t.args.length c1, .int .i64 s.f, .slice a2 s.args.length c2] 1) rfl rfl rfl (fun za zC zh zk => row_22_1 rfl (zh.ev rfl) (zk _ _ (newRow _ _ _ _))) ?_
 rintro _ w17 ⟨g18, rfl, hg19, hB20, hb21, hz22⟩
 have hl23 : g2 < g18 := by have z1 := hB16.lt; omega
 have hl24 : g9 < g18 := by have z1 := hB11.lt; omega
 have hb25 : Below w.heap.size w w8 := (bstep hb5 hb12)
 have hl26 : w.heap.size ≤ g18 := by have z2 := (hb25).size; omega
 have hb27 : Below w.heap.size w w17 := (bstep hb25 hb21)
 have hb28 : Below w.heap.size w w17 := hb27
 refine WL.call rfl rfl rfl (fun za zh zC => wp_call (by kernel_rfl) rfl (hv1 (zh.ev rfl))) (ppairs_any [(t, s)] _ _ 1 (IsPs.one hB20 (h1.below hb27) (h2.below hb27)) (by simp)) ?_
 rintro _ w29 ⟨⟨bs, a9, c9, e9, rfl, hPI, hIR, hle, hcm, h96⟩, hb9⟩
 refine WL.val (.slice a9 bs.length c9) rfl rfl rfl (fun za zC zh zk => ext2_0 rfl (zh.ev rfl) zk) ?_
 refine WL.val (.int .i64 e9) rfl rfl rfl (fun za zC zh zk => ext2_1 rfl (zh.ev rfl) zk) ?_
 refine WL.asg rfl rfl rfl rfl rfl (WL.asg rfl rfl rfl rfl rfl (WL.nil (WE.next (WC.ret (WE.ret2 rfl rfl rfl ?_)))))
 have hb30 : Below w.heap.size w w29 := (bstep hb27 hb9)
 exact ⟨_, rfl, ⟨bs, a9, c9, e9, rfl, hPI, hIR.mono (by decide) (fun b q _ => Nat.le_trans hb28.size q), hle, hcm, h96⟩, hb30⟩
set_option maxRecDepth 100000 in
theorem pcan_any (t s : T) (w : World) (v1 v2 : Value) (h1 : IsT w t v1) (h2 : IsT w s v2) :
  Calls Try.prog 11 #[v1, v2] w (Ret fun v' w' => (∃ b, v' = .bool b ∧ CanIs true [(t, s)] b) ∧ Below w.heap.size w w') := by
 obtain ⟨_, a1, c1, rfl, _⟩ := h1.form
 obtain ⟨_, a2, c2, rfl, _⟩ := h2.form
 refine Calls.walk (l := [.agg #[.int .i64 t.f, .slice a1 t.args.length c1], .agg #[.int .i64 s.f, .slice a2 s.args.length c2]]) Try.func11 rfl (by kernel_rfl) ?_
 refine WC.sub (K' := [(0, .agg #[.int .i64 t.f, .slice a1 t.args.length c1]), (1, .agg #[.int .i64 s.f, .slice a2 s.args.length c2])]) ⟨rfl, rfl, trivial⟩ ?_
 refine WC.seq (WC.region ?_)
 refine WL.step (post := NewBlk w 32 #[.int .i64 t.f, .slice a1 t.args.length c1]) rfl rfl rfl (fun za zC zh zk => box_32 rfl (zh.ev rfl) (zk _ _ (newBlk _ _ _))) ?_
 rintro _ w1 ⟨g2, rfl, hg3, hB4, hb5, hz6⟩
 have hl7 : w.heap.size ≤ g2 := by omega
 refine WL.step (post := NewBlk w1 32 #[.int .i64 s.f, .slice a2 s.args.length c2]) rfl rfl rfl (fun za zC zh zk => box_32 rfl (zh.ev rfl) (zk _ _ (newBlk _ _ _))) ?_
 rintro _ w8 ⟨g9, rfl, hg10, hB11, hb12, hz13⟩
 have hl14 : g2 < g9 := by have z1 := hB4.lt; omega
 have hl15 : w.heap.size ≤ g9 := by have z2 := (hb5).size; omega
 refine WL.asg rfl rfl rfl rfl rfl (WL.nil (WE.next (WC.seq (WC.region ?_))))
 have hB16 := hB4.below hb12
 refine WL.val _ rfl rfl rfl (fun za zC zh zk => ld_32 rfl (zh.ev rfl) ((hB16.cell 0).trans rfl) ((hB16.cell 1).trans rfl) zk) ?_
 refine WL.val _ rfl rfl rfl (fun za zC zh zk => ld_32 rfl (zh.ev rfl) ((hB11.cell 0).trans rfl) ((hB11.cell 1).trans rfl) zk) ?_
 refine WL.val (.agg #[.int .i64 t.f, .slice a1 t.args.length c1, .int .i64 s.f, .slice a2 s.args.length c2]) rfl rfl rfl (fun za zC zh zk => build_33_0_1 rfl (zh.ev rfl) (zh.ev rfl) zk) ?_
 refine WL.step (post := NewRow w8 33 #[.int .i64 t.f, .slice a1 t.args.length c1, .int .i64 s.f, .slice a2 s.args.length c2] 1) rfl rfl rfl (fun za zC zh zk => row_22_1 rfl (zh.ev rfl) (zk _ _ (newRow _ _ _ _))) ?_
 rintro _ w17 ⟨g18, rfl, hg19, hB20, hb21, hz22⟩
 have hl23 : g2 < g18 := by have z1 := hB16.lt; omega
 have hl24 : g9 < g18 := by have z1 := hB11.lt; omega
 have hb25 : Below w.heap.size w w8 := (bstep hb5 hb12)
 have hl26 : w.heap.size ≤ g18 := by have z2 := (hb25).size; omega
 have hb31 : Below w.heap.size w w17 := (bstep hb25 hb21)
 refine WL.call rfl rfl rfl (fun za zh zC => wp_call (by kernel_rfl) rfl (hv1 (zh.ev rfl))) (psolve_any [(t, s)] _ _ 1 (IsPs.one hB20 (h1.below hb31) (h2.below hb31)) (by simp)) ?_
 rintro v29 w27 ⟨h30, hb28⟩
 rcases h30 with ⟨hW, rfl⟩ | ⟨hW, hsv, rfl⟩ | ⟨hW, st, κ, g, mb, ms, hgo, hAk, hdn, rfl, _⟩
 ·refine WL.mv rfl rfl rfl rfl rfl ?_
  refine WL.val (.pointer none) rfl rfl rfl (fun za zC zh zk => ext3_0 rfl (zh.ev rfl) zk) ?_
  refine WL.val (.slice none 0 0) rfl rfl rfl (fun za zC zh zk => ext3_1 rfl (zh.ev rfl) zk) ?_
  refine WL.val (.int .i64 2) rfl rfl rfl (fun za zC zh zk => ext3_2 rfl (zh.ev rfl) zk) ?_
  refine WL.asg rfl rfl rfl rfl rfl (WL.asg rfl rfl rfl rfl rfl (WL.asg rfl rfl rfl rfl rfl (WL.nil (WE.next (WC.seq (WC.region (WL.mv rfl rfl rfl rfl rfl ?_)))))))
  refine WL.val (.bool (((2 : Int) == (0 : Int)))) rfl rfl rfl (fun za zC zh zk => eql_25 rfl (zh.ev rfl) (zh.ev rfl) zk) ?_
  refine WL.asg rfl rfl rfl rfl rfl (WL.nil (WE.next (WC.ret (WE.ret1 rfl rfl ?_))))
  have hb32 : Below w.heap.size w w27 := (bstep hb31 hb28)
  exact ⟨_, rfl, ⟨false, rfl, .inl ⟨hW, rfl⟩⟩, hb32⟩
 ·refine WL.mv rfl rfl rfl rfl rfl ?_
  refine WL.val (.pointer none) rfl rfl rfl (fun za zC zh zk => ext3_0 rfl (zh.ev rfl) zk) ?_
  refine WL.val (.slice none 0 0) rfl rfl rfl (fun za zC zh zk => ext3_1 rfl (zh.ev rfl) zk) ?_
  refine WL.val (.int .i64 4) rfl rfl rfl (fun za zC zh zk => ext3_2 rfl (zh.ev rfl) zk) ?_
  refine WL.asg rfl rfl rfl rfl rfl (WL.asg rfl rfl rfl rfl rfl (WL.asg rfl rfl rfl rfl rfl (WL.nil (WE.next (WC.seq (WC.region (WL.mv rfl rfl rfl rfl rfl ?_)))))))
  refine WL.val (.bool (((4 : Int) == (0 : Int)))) rfl rfl rfl (fun za zC zh zk => eql_25 rfl (zh.ev rfl) (zh.ev rfl) zk) ?_
  refine WL.asg rfl rfl rfl rfl rfl (WL.nil (WE.next (WC.ret (WE.ret1 rfl rfl ?_))))
  have hb33 : Below w.heap.size w w27 := (bstep hb31 hb28)
  exact ⟨_, rfl, ⟨false, rfl, .inr ⟨hW, none, hsv, rfl⟩⟩, hb33⟩
 ·refine WL.mv rfl rfl rfl rfl rfl ?_
  refine WL.val (.pointer (some ⟨g, 0, none⟩)) rfl rfl rfl (fun za zC zh zk => ext3_0 rfl (zh.ev rfl) zk) ?_
  refine WL.val (.slice ((some ⟨mb, 0, none⟩)) st.N.length st.N.length) rfl rfl rfl (fun za zC zh zk => ext3_1 rfl (zh.ev rfl) zk) ?_
  refine WL.val (.int .i64 0) rfl rfl rfl (fun za zC zh zk => ext3_2 rfl (zh.ev rfl) zk) ?_
  refine WL.asg rfl rfl rfl rfl rfl (WL.asg rfl rfl rfl rfl rfl (WL.asg rfl rfl rfl rfl rfl (WL.nil (WE.next (WC.seq (WC.region (WL.mv rfl rfl rfl rfl rfl ?_)))))))
  refine WL.val (.bool (((0 : Int) == (0 : Int)))) rfl rfl rfl (fun za zC zh zk => eql_25 rfl (zh.ev rfl) (zh.ev rfl) zk) ?_
  refine WL.asg rfl rfl rfl rfl rfl (WL.nil (WE.next (WC.ret (WE.ret1 rfl rfl ?_))))
  have hb34 : Below w.heap.size w w27 := (bstep hb31 hb28)
  have hrn := hgo.run
  rw [List.take_length] at hrn
  exact ⟨_, rfl, ⟨true, rfl, .inr ⟨hW, some (st, κ, msz ms, mdp ms), .ok hrn (hAk.meas hdn), rfl⟩⟩, hb34⟩
end Go.Proofs.Ythhgidliopohcaa

/- Two terms: what variables become; whether there is a unifier: the document. -/
namespace Go.Proofs.Ythhgidliopohcaa
open Go.RowKit Go
set_option linter.unusedVariables false
set_option linter.unusedSimpArgs false
set_option maxRecDepth 100000 in
theorem rterms_any (t s : T) (w : World) (v1 v2 : Value) (h1 : IsT w t v1) (h2 : IsT w s v2) (z1 : t.size ≤ 4294967296) (z2 : s.size ≤ 4294967296) :
  Calls Try.prog 10 #[v1, v2] w (Ret fun v' w' => (∃ bs a' c' e, v' = .tuple #[.slice a' bs.length c', .int .i64 e] ∧ PairsIs false [(t, s)] bs e ∧ InRow eltB (fun b => w.heap.size ≤ b) w' bs a' ∧ bs.length ≤ c' ∧ c' ≤ maxLen ∧ bs.length ≤ 96) ∧ Below w.heap.size w w') := by
 have hsz : ∀ k, k < [(t, s)].length → (prget [(t, s)] k).1.size ≤ 4294967296 ∧ (prget [(t, s)] k).2.size ≤ 4294967296 := fun k hk => by
  obtain rfl : k = 0 := by simp at hk; exact hk
  exact ⟨z1, z2⟩
 obtain ⟨_, a1, c1, rfl, _⟩ := h1.form
 obtain ⟨_, a2, c2, rfl, _⟩ := h2.form
 refine Calls.walk (l := [.agg #[.int .i64 t.f, .slice a1 t.args.length c1], .agg #[.int .i64 s.f, .slice a2 s.args.length c2]]) Try.func10 rfl (by kernel_rfl) ?_
 refine WC.sub (K' := [(0, .agg #[.int .i64 t.f, .slice a1 t.args.length c1]), (1, .agg #[.int .i64 s.f, .slice a2 s.args.length c2])]) ⟨rfl, rfl, trivial⟩ ?_
 refine WC.seq (WC.region ?_)
 refine WL.step (post := NewBlk w 32 #[.int .i64 t.f, .slice a1 t.args.length c1]) rfl rfl rfl (fun za zC zh zk => box_32 rfl (zh.ev rfl) (zk _ _ (newBlk _ _ _))) ?_
 rintro _ w1 ⟨g2, rfl, hg3, hB4, hb5, hz6⟩
 have hl7 : w.heap.size ≤ g2 := by omega
 refine WL.step (post := NewBlk w1 32 #[.int .i64 s.f, .slice a2 s.args.length c2]) rfl rfl rfl (fun za zC zh zk => box_32 rfl (zh.ev rfl) (zk _ _ (newBlk _ _ _))) ?_
 rintro _ w8 ⟨g9, rfl, hg10, hB11, hb12, hz13⟩
 have hl14 : g2 < g9 := by have z1 := hB4.lt; omega
 have hl15 : w.heap.size ≤ g9 := by have z2 := (hb5).size; omega
 refine WL.asg rfl rfl rfl rfl rfl (WL.asg rfl rfl rfl rfl rfl (WL.nil (WE.next (WC.seq (WC.region ?_)))))
 have hB16 := hB4.below hb12
 refine WL.val _ rfl rfl rfl (fun za zC zh zk => ld_32 rfl (zh.ev rfl) ((hB16.cell 0).trans rfl) ((hB16.cell 1).trans rfl) zk) ?_
 refine WL.val _ rfl rfl rfl (fun za zC zh zk => ld_32 rfl (zh.ev rfl) ((hB11.cell 0).trans rfl) ((hB11.cell 1).trans rfl) zk) ?_
 refine WL.val (.agg #[.int .i64 t.f, .slice a1 t.args.length c1, .int .i64 s.f, .slice a2 s.args.length c2]) rfl rfl rfl (fun za zC zh zk => build_33_0_1 rfl (zh.ev rfl) (zh.ev rfl) zk) ?_
 refine WL.step (post := NewRow w8 33 #[.int .i64 t.f, .slice a1 t.args.length c1, .int .i64 s.f, .slice a2 s.args.length c2] 1) rfl rfl rfl (fun za zC zh zk => row_22_1 rfl (zh.ev rfl) (zk _ _ (newRow _ _ _ _))) ?_
 rintro _ w17 ⟨g18, rfl, hg19, hB20, hb21, hz22⟩
 have hl23 : g2 < g18 := by have z1 := hB16.lt; omega
 have hl24 : g9 < g18 := by have z1 := hB11.lt; omega
 have hb25 : Below w.heap.size w w8 := (bstep hb5 hb12)
 have hl26 : w.heap.size ≤ g18 := by have z2 := (hb25).size; omega
 have hb27 : Below w.heap.size w w17 := (bstep hb25 hb21)
 have hb28 : Below w.heap.size w w17 := hb27
 refine WL.call rfl rfl rfl (fun za zh zC => wp_call (by kernel_rfl) rfl (hv1 (zh.ev rfl))) (rpairs_any [(t, s)] _ _ 1 (IsPs.one hB20 (h1.below hb27) (h2.below hb27)) (by simp) hsz) ?_
 rintro _ w29 ⟨⟨bs, a9, c9, e9, rfl, hPI, hIR, hle, hcm, h96⟩, hb9⟩
 refine WL.val (.slice a9 bs.length c9) rfl rfl rfl (fun za zC zh zk => ext2_0 rfl (zh.ev rfl) zk) ?_
 refine WL.val (.int .i64 e9) rfl rfl rfl (fun za zC zh zk => ext2_1 rfl (zh.ev rfl) zk) ?_
 refine WL.asg rfl rfl rfl rfl rfl (WL.asg rfl rfl rfl rfl rfl (WL.nil (WE.next (WC.ret (WE.ret2 rfl rfl rfl ?_)))))
 have hb30 : Below w.heap.size w w29 := (bstep hb27 hb9)
 exact ⟨_, rfl, ⟨bs, a9, c9, e9, rfl, hPI, hIR.mono (by decide) (fun b q _ => Nat.le_trans hb28.size q), hle, hcm, h96⟩, hb30⟩
set_option maxRecDepth 100000 in
theorem rcan_any (t s : T) (w : World) (v1 v2 : Value) (h1 : IsT w t v1) (h2 : IsT w s v2) (z1 : t.size ≤ 4294967296) (z2 : s.size ≤ 4294967296) :
  Calls Try.prog 12 #[v1, v2] w (Ret fun v' w' => (∃ b, v' = .bool b ∧ CanIs false [(t, s)] b) ∧ Below w.heap.size w w') := by
 have hsz : ∀ k, k < [(t, s)].length → (prget [(t, s)] k).1.size ≤ 4294967296 ∧ (prget [(t, s)] k).2.size ≤ 4294967296 := fun k hk => by
  obtain rfl : k = 0 := by simp at hk; exact hk
  exact ⟨z1, z2⟩
 obtain ⟨_, a1, c1, rfl, _⟩ := h1.form
 obtain ⟨_, a2, c2, rfl, _⟩ := h2.form
 refine Calls.walk (l := [.agg #[.int .i64 t.f, .slice a1 t.args.length c1], .agg #[.int .i64 s.f, .slice a2 s.args.length c2]]) Try.func12 rfl (by kernel_rfl) ?_
 refine WC.sub (K' := [(0, .agg #[.int .i64 t.f, .slice a1 t.args.length c1]), (1, .agg #[.int .i64 s.f, .slice a2 s.args.length c2])]) ⟨rfl, rfl, trivial⟩ ?_
 refine WC.seq (WC.region ?_)
 refine WL.step (post := NewBlk w 32 #[.int .i64 t.f, .slice a1 t.args.length c1]) rfl rfl rfl (fun za zC zh zk => box_32 rfl (zh.ev rfl) (zk _ _ (newBlk _ _ _))) ?_
 rintro _ w1 ⟨g2, rfl, hg3, hB4, hb5, hz6⟩
 have hl7 : w.heap.size ≤ g2 := by omega
 refine WL.step (post := NewBlk w1 32 #[.int .i64 s.f, .slice a2 s.args.length c2]) rfl rfl rfl (fun za zC zh zk => box_32 rfl (zh.ev rfl) (zk _ _ (newBlk _ _ _))) ?_
 rintro _ w8 ⟨g9, rfl, hg10, hB11, hb12, hz13⟩
 have hl14 : g2 < g9 := by have z1 := hB4.lt; omega
 have hl15 : w.heap.size ≤ g9 := by have z2 := (hb5).size; omega
 refine WL.asg rfl rfl rfl rfl rfl (WL.nil (WE.next (WC.seq (WC.region ?_))))
 have hB16 := hB4.below hb12
 refine WL.val _ rfl rfl rfl (fun za zC zh zk => ld_32 rfl (zh.ev rfl) ((hB16.cell 0).trans rfl) ((hB16.cell 1).trans rfl) zk) ?_
 refine WL.val _ rfl rfl rfl (fun za zC zh zk => ld_32 rfl (zh.ev rfl) ((hB11.cell 0).trans rfl) ((hB11.cell 1).trans rfl) zk) ?_
 refine WL.val (.agg #[.int .i64 t.f, .slice a1 t.args.length c1, .int .i64 s.f, .slice a2 s.args.length c2]) rfl rfl rfl (fun za zC zh zk => build_33_0_1 rfl (zh.ev rfl) (zh.ev rfl) zk) ?_
 refine WL.step (post := NewRow w8 33 #[.int .i64 t.f, .slice a1 t.args.length c1, .int .i64 s.f, .slice a2 s.args.length c2] 1) rfl rfl rfl (fun za zC zh zk => row_22_1 rfl (zh.ev rfl) (zk _ _ (newRow _ _ _ _))) ?_
 rintro _ w17 ⟨g18, rfl, hg19, hB20, hb21, hz22⟩
 have hl23 : g2 < g18 := by have z1 := hB16.lt; omega
 have hl24 : g9 < g18 := by have z1 := hB11.lt; omega
 have hb25 : Below w.heap.size w w8 := (bstep hb5 hb12)
 have hl26 : w.heap.size ≤ g18 := by have z2 := (hb25).size; omega
 refine WL.asg rfl rfl rfl rfl rfl (WL.nil (WE.next (WC.seq (WC.seq (WC.region (WL.mv rfl rfl rfl rfl rfl ?_))))))
 have hb27 : Below w.heap.size w w17 := (bstep hb25 hb21)
 refine WL.call rfl rfl rfl (fun za zh zC => wp_call (by kernel_rfl) rfl (hv1 (zh.ev rfl))) (rwide_any [(t, s)] _ _ 1 (IsPs.one hB20 (h1.below hb27) (h2.below hb27)) (by simp) hsz) ?_
 rintro _ w29 ⟨rfl, hq28⟩
 refine WL.val (.bool ((!(wideB [(t, s)])))) rfl rfl rfl (fun za zC zh zk => wp_not rfl (zh.ev rfl) zk) ?_
 refine WL.nil (WE.next ?_)
 refine WC.cond rfl (fun h30 => ?_) (fun h30 => ?_)
 ·have h30 : ¬ ((wideB [(t, s)]) = true) := by simpa using h30
  have hW : wideB [(t, s)] = false := by simpa using h30
  refine WC.seq (WC.region (WL.asg rfl rfl rfl rfl rfl (WL.nil (WE.next (WC.ret (WE.thenRet (WE.ret1 rfl rfl ?_)))))))
  have hb31 : Below w.heap.size w w29 := (bstep hb27 hq28)
  exact ⟨_, rfl, ⟨false, rfl, .inl ⟨hW, rfl⟩⟩, hb31⟩
 ·have h30 : ¬ (¬ ((wideB [(t, s)]) = true)) := by simpa using h30
  have hW : wideB [(t, s)] = true := by simpa using h30
  refine WC.skip (WE.next (WC.seq (WC.region (WL.mv rfl rfl rfl rfl rfl ?_))))
  have hB36 := hB20.below hq28
  have hb37 : Below w.heap.size w w29 := (bstep hb27 hq28)
  refine WL.call rfl rfl rfl (fun za zh zC => wp_call (by kernel_rfl) rfl (hv1 (zh.ev rfl))) (rjoined_any [(t, s)] _ _ 1 (IsPs.one hB36 (h1.below hb37) (h2.below hb37)) hW) ?_
  rintro v34 w32 ⟨h35, hb33⟩
  rcases h35 with ⟨hsv, rfl⟩ | ⟨st, κ, g, gm, zb, zc, db, dc, ms, hgo, hAk, hdn, rfl, _⟩
  ·refine WL.mv rfl rfl rfl rfl rfl ?_
   refine WL.val (.pointer none) rfl rfl rfl (fun za zC zh zk => ext3_0 rfl (zh.ev rfl) zk) ?_
   refine WL.val (.pointer none) rfl rfl rfl (fun za zC zh zk => ext3_1 rfl (zh.ev rfl) zk) ?_
   refine WL.val (.bool false) rfl rfl rfl (fun za zC zh zk => ext3_2 rfl (zh.ev rfl) zk) ?_
   refine WL.asg rfl rfl rfl rfl rfl (WL.asg rfl rfl rfl rfl rfl (WL.asg rfl rfl rfl rfl rfl (WL.nil (WE.next (WC.seq (WC.region (WL.mv rfl rfl rfl rfl rfl (WL.asg rfl rfl rfl rfl rfl (WL.nil (WE.next (WC.ret (WE.ret1 rfl rfl ?_))))))))))))
   have hb38 : Below w.heap.size w w32 := (bstep hb37 hb33)
   exact ⟨_, rfl, ⟨false, rfl, .inr ⟨hW, none, hsv, rfl⟩⟩, hb38⟩
  ·refine WL.mv rfl rfl rfl rfl rfl ?_
   refine WL.val (.pointer (some ⟨g, 0, none⟩)) rfl rfl rfl (fun za zC zh zk => ext3_0 rfl (zh.ev rfl) zk) ?_
   refine WL.val (.pointer (some ⟨gm, 0, none⟩)) rfl rfl rfl (fun za zC zh zk => ext3_1 rfl (zh.ev rfl) zk) ?_
   refine WL.val (.bool true) rfl rfl rfl (fun za zC zh zk => ext3_2 rfl (zh.ev rfl) zk) ?_
   refine WL.asg rfl rfl rfl rfl rfl (WL.asg rfl rfl rfl rfl rfl (WL.asg rfl rfl rfl rfl rfl (WL.nil (WE.next (WC.seq (WC.region (WL.mv rfl rfl rfl rfl rfl (WL.asg rfl rfl rfl rfl rfl (WL.nil (WE.next (WC.ret (WE.ret1 rfl rfl ?_))))))))))))
   have hb39 : Below w.heap.size w w32 := (bstep hb37 hb33)
   have hrn := hgo.run
   rw [List.take_length] at hrn
   exact ⟨_, rfl, ⟨true, rfl, .inr ⟨hW, some (st, κ, msz ms, mdp ms), .ok hrn (hAk.meas hdn), rfl⟩⟩, hb39⟩
end Go.Proofs.Ythhgidliopohcaa

/- The program's answer and the document's are one; what the document says of two terms. -/
namespace Go.Proofs.Ythhgidliopohcaa
open Go.RowKit Go
set_option linter.unusedVariables false
set_option linter.unusedSimpArgs false
theorem PairsIs.det {rv rv' : Bool} {l : List (T × T)} {bs bs' : List Bd} {e e' : Int} (h : PairsIs rv l bs e) (h' : PairsIs rv' l bs' e') : bs = bs' ∧ e = e' := by
  rcases h with ⟨h1, rfl, rfl⟩ | ⟨h1, o, h2, h3⟩
  · rcases h' with ⟨_, rfl, rfl⟩ | ⟨k1, _⟩
    · exact ⟨rfl, rfl⟩
    · rw [h1] at k1; cases k1
  · rcases h' with ⟨k1, _⟩ | ⟨k1, o', k2, k3⟩
    · rw [h1] at k1; cases k1
    · have z := (solve_alike h2 k2).1
      rw [h3, k3] at z
      exact Prod.mk.inj z
theorem CanIs.det {rv rv' : Bool} {l : List (T × T)} {b b' : Bool} (h : CanIs rv l b) (h' : CanIs rv' l b') : b = b' := by
  rcases h with ⟨h1, rfl⟩ | ⟨h1, o, h2, rfl⟩
  · rcases h' with ⟨_, rfl⟩ | ⟨k1, _⟩
    · rfl
    · rw [h1] at k1; cases k1
  · rcases h' with ⟨k1, _⟩ | ⟨k1, o', k2, rfl⟩
    · rw [h1] at k1; cases k1
    · have z := (solve_alike h2 k2).2
      cases o with
      | none => rw [z.1 rfl]
      | some p =>
        cases o' with
        | none => cases z.2 rfl
        | some q => rfl
/-! ### What the document says of two terms -/
def wkF : T := .mk 3 [.mk (-1) [], .mk 1 []]
def wkH : T := .mk 3 [.mk 2 [.mk (-2) []], .mk (-2) []]
def wkX : T := .mk (-1) []
def wkG : T := .mk 2 [.mk (-1) []]
theorem wk_put1 : (wkF.put ⟨[], fun _ => 0⟩) = (⟨[⟨-1, []⟩, ⟨1, []⟩, ⟨3, [0, 1]⟩], NS.setV (fun _ => 0) 0 1⟩, 2) := by
  simp [wkF, T.put, T.putL, NS.var, vnum]
theorem wk_put2 : (wkH.put ⟨[⟨-1, []⟩, ⟨1, []⟩, ⟨3, [0, 1]⟩], NS.setV (fun _ => 0) 0 1⟩) = (⟨[⟨-1, []⟩, ⟨1, []⟩, ⟨3, [0, 1]⟩, ⟨-2, []⟩, ⟨2, [3]⟩, ⟨3, [4, 3]⟩], NS.setV (NS.setV (fun _ => 0) 0 1) 1 4⟩, 5) := by
  simp [wkH, T.put, T.putL, NS.var, vnum, NS.setV]
def wkN : List Pt := [⟨-1, []⟩, ⟨1, []⟩, ⟨3, [0, 1]⟩, ⟨-2, []⟩, ⟨2, [3]⟩, ⟨3, [4, 3]⟩]
def wkK : Nat → Nat := mrg (mrg (mrg id 5 2) 3 1) 0 4
theorem wk_run : Run true wkN [(2, 5)] id (some wkK) :=
  .step (by decide) (show _ = some (mrg id 5 2, [(0, 4), (1, 3)]) from rfl) (.step (by decide) (show _ = some (mrg (mrg id 5 2) 3 1, []) from rfl) (.step (by decide) (show _ = some (wkK, []) from rfl) (.nil _)))
def wkS : Nat → Nat := fun i => [0, 1, 4, 0, 2, 0].getD i 0
def wkD : Nat → Nat := fun i => [0, 1, 3, 0, 2, 0].getD i 0
theorem wk_solve : SolveIs true [(wkF, wkH)] (some (⟨wkN, NS.setV (NS.setV (fun _ => 0) 0 1) 1 4⟩, wkK, wkS, wkD)) := by
  refine .ok (.cons (κ' := wkK) ?_ ?_) ⟨?_, ?_⟩
  · rw [wk_put1, wk_put2]; exact wk_run
  · rw [wk_put1, wk_put2]; exact .nil _ _
  · show ∀ i, i < 6 → wkS (wkK i) = szF wkK wkS (pget wkN (wkK i)).args
    decide
  · show ∀ i, i < 6 → wkD (wkK i) = dpF wkK wkD (pget wkN (wkK i)).args
    decide
theorem wk_binds : bindsM ⟨wkN, NS.setV (NS.setV (fun _ => 0) 0 1) 1 4⟩ wkK wkS wkD 96 = some [⟨0, .mk 2 [.mk 1 []]⟩, ⟨1, .mk 1 []⟩] := by
  have key : ∀ n, bindsM ⟨wkN, NS.setV (NS.setV (fun _ => 0) 0 1) 1 4⟩ wkK wkS wkD (n + 2) = some [⟨0, .mk 2 [.mk 1 []]⟩, ⟨1, .mk 1 []⟩] := fun n => by
    induction n with
    | zero => rfl
    | succ n ih =>
      rw [bindsM, ih]
      show (if NS.setV (NS.setV (fun _ => 0) 0 1) 1 4 (n + 2) = 0 then _ else _) = _
      rw [if_pos (by unfold NS.setV; rw [if_neg (by omega), if_neg (by omega)])]
  exact key 94
theorem wk_wide : wideB [(wkF, wkH)] = true := by decide
theorem wk_pairs {bs : List Bd} {e : Int} (h : PairsIs true [(wkF, wkH)] bs e) : bs = [⟨0, .mk 2 [.mk 1 []]⟩, ⟨1, .mk 1 []⟩] ∧ e = 0 :=
  h.det (rv' := true) (.inr ⟨wk_wide, _, wk_solve, by unfold resOf; (try dsimp only); rw [wk_binds]; rfl⟩)
theorem wk_can {b : Bool} (h : CanIs true [(wkF, wkH)] b) : b = true := h.det (rv' := true) (.inr ⟨wk_wide, _, wk_solve, rfl⟩)
theorem wk_put3 : (wkX.put ⟨[], fun _ => 0⟩) = (⟨[⟨-1, []⟩], NS.setV (fun _ => 0) 0 1⟩, 0) := by simp [wkX, T.put, NS.var, vnum]
theorem wk_put4 : (wkG.put ⟨[⟨-1, []⟩], NS.setV (fun _ => 0) 0 1⟩) = (⟨[⟨-1, []⟩, ⟨2, [0]⟩], NS.setV (fun _ => 0) 0 1⟩, 1) := by simp [wkG, T.put, T.putL, NS.var, vnum, NS.setV]
theorem wk_none {bs : List Bd} {e : Int} (h : PairsIs true [(wkX, wkG)] bs e) : e = 4 := by
  have hs : SolveIs true [(wkX, wkG)] none := by
    refine .cyc (st := ⟨[⟨-1, []⟩, ⟨2, [0]⟩], NS.setV (fun _ => 0) 0 1⟩) (κ := mrg id 0 1) (.cons (κ' := mrg id 0 1) ?_ ?_) (fun sz dp hm => ?_)
    · rw [wk_put3, wk_put4]
      exact .step (by decide) (show _ = some (mrg id 0 1, []) from rfl) (.nil _)
    · rw [wk_put3, wk_put4]; exact .nil _ _
    · have z := hm.lt (i := 1) (a := 0) (by decide) (by decide)
      exact absurd z (Nat.lt_irrefl _)
  exact (h.det (rv' := true) (.inr ⟨by decide, _, hs, rfl⟩)).2
end Go.Proofs.Ythhgidliopohcaa

/- Terms compared, as a plain function. -/
namespace Go.Proofs.Ythhgidliopohcaa
namespace T
mutual
def same : T → T → Bool
  | .mk f l, .mk g k => (f == g) && sameL l k
def sameL : List T → List T → Bool
  | [], [] => true
  | a :: r, b :: q => same a b && sameL r q
  | [], _ :: _ => false
  | _ :: _, [] => false
end
mutual
theorem same_iff : ∀ (s t : T), same s t = true ↔ s = t
  | .mk f l, .mk g k => by
    rw [same, Bool.and_eq_true, sameL_iff l k, beq_iff_eq]
    simp
theorem sameL_iff : ∀ (l k : List T), sameL l k = true ↔ l = k
  | [], [] => by simp [sameL]
  | a :: r, b :: q => by rw [sameL, Bool.and_eq_true, same_iff a b, sameL_iff r q]; simp
  | [], _ :: _ => by simp [sameL]
  | _ :: _, [] => by simp [sameL]
end
theorem same_refl (s : T) : same s s = true := (same_iff s s).2 rfl
mutual
def cmp : T → T → Int
  | .mk f l, .mk g k => if f ≠ g then (if f < 0 ∧ g < 0 then (if g < f then -1 else 1) else if f < g then -1 else 1) else cmpL l k
def cmpL : List T → List T → Int
  | [], [] => 0
  | a :: r, b :: q => if cmp a b = 0 then cmpL r q else cmp a b
  | [], _ :: _ => -1
  | _ :: _, [] => 1
end
mutual
theorem cmp_zero : ∀ (s t : T), cmp s t = 0 ↔ s = t
  | .mk f l, .mk g k => by
    rw [cmp]
    have h := cmpL_zero l k
    by_cases hfg : f = g
    · subst hfg; simp [h]
    · rw [if_pos (by simpa using hfg)]
      simp only [T.mk.injEq, hfg, false_and, iff_false]
      (repeat' split) <;> simp
theorem cmpL_zero : ∀ (l k : List T), cmpL l k = 0 ↔ l = k
  | [], [] => by simp [cmpL]
  | a :: r, b :: q => by
    rw [cmpL]
    have h1 := cmp_zero a b
    have h2 := cmpL_zero r q
    by_cases h : cmp a b = 0
    · rw [if_pos h, h2, h1.1 h]; simp
    · rw [if_neg h]
      simp only [h, false_iff, List.cons.injEq, not_and]
      intro e; exact absurd (h1.2 e) h
  | [], _ :: _ => by simp [cmpL]
  | _ :: _, [] => by simp [cmpL]
end
theorem cmp_same (s t : T) : if same s t = true then cmp s t = 0 else ¬ cmp s t = 0 := by
  by_cases h : s = t
  · rw [if_pos ((same_iff s t).2 h)]; exact (cmp_zero s t).2 h
  · rw [if_neg (fun e => h ((same_iff s t).1 e))]; exact fun e => h ((cmp_zero s t).1 e)
theorem cmpL_drop (l q : List T) (k : Nat) (h : k < l.length) (h' : k < q.length) : cmpL (l.drop k) (q.drop k) = if cmp l[k] q[k] = 0 then cmpL (l.drop (k + 1)) (q.drop (k + 1)) else cmp l[k] q[k] := by
  rw [List.drop_eq_getElem_cons h, List.drop_eq_getElem_cons h', cmpL]
theorem cmpL_long (l q : List T) (k : Nat) (h : k < l.length) (h' : q.length ≤ k) : cmpL (l.drop k) (q.drop k) = 1 := by
  rw [List.drop_eq_getElem_cons h, List.drop_eq_nil_of_le h', cmpL]
theorem cmpL_short (l q : List T) (h : l.length < q.length) : cmpL (l.drop l.length) (q.drop l.length) = -1 := by
  rw [List.drop_eq_getElem_cons h, List.drop_eq_nil_of_le (Nat.le_refl _), cmpL]
theorem cmpL_end (l q : List T) (h : q.length ≤ l.length) : cmpL (l.drop l.length) (q.drop l.length) = 0 := by
  rw [List.drop_eq_nil_of_le h, List.drop_eq_nil_of_le (Nat.le_refl _), cmpL]
end T
end Go.Proofs.Ythhgidliopohcaa

/- Terms that are the same: the program's way. -/
namespace Go.Proofs.Ythhgidliopohcaa
open Go.RowKit Go.Sort Go
end Go.Proofs.Ythhgidliopohcaa

/- Terms compared and found the same: the document's way. -/
namespace Go.Proofs.Ythhgidliopohcaa
open Go.RowKit Go.Sort Go
set_option maxHeartbeats 400000 in
theorem compare_any (s : T) : ∀ (t : T) (w : World) (v u : Value), IsT w s v → IsT w t u →
    Calls Try.prog 33 #[v, u] w fun e w' => e = .returned (.int .i64 (T.cmp s t)) ∧ Below w.heap.size w w' := by
  induction s using T.ind with
  | h f l ih =>
  intro t w v u hv hu
  obtain ⟨g, q⟩ := t
  obtain ⟨⟨hf1, hf2⟩, a, c, rfl, hc, hm, hl⟩ := hv
  obtain ⟨⟨hg1, hg2⟩, a', c', rfl, hc', hm', hq⟩ := hu
  unfold maxLen at hm hm'
  by_cases hfg : f = g
  · have E := Lib.hid (show T.cmp (.mk f l) (.mk g q) = T.cmpL l q by rw [T.cmp, if_neg (by simpa using hfg)])
    have hne : (f != g) = false := by simpa using hfg
    subst hfg
    go_enter Try.func33, Try.ntmps33
    go_wp2_with fail
    go_loopw [5] (fun i wr => ∃ (k : Nat), k ≤ l.length ∧ k ≤ q.length ∧ i = .int .i64 k ∧ Hid (T.cmpL l q = T.cmpL (l.drop k) (q.drop k)) ∧ Below w.heap.size w wr ∧ Box wr w.heap.size [.int .i64 f, .slice a l.length c] ∧ Box wr (w.heap.size + 1) [.int .i64 f, .slice a' q.length c']) (fun i _ => l.length - (intOf i).toNat)
    case atStart => exact ⟨0, Nat.zero_le _, Nat.zero_le _, rfl, rfl, balloc2 _ _ _, (Box.new _ _ _).alloc _, by have := Box.new (w.alloc (.cells #[.int .i64 f, .slice a l.length c] 32)) [.int .i64 f, .slice a' q.length c'] 32; simpa using this⟩
    case round =>
      obtain ⟨k, hk, hkq, rfl, hx, hw, hB1, hB2⟩ := hrel
      obtain ⟨s0, s1⟩ := hB1.two
      obtain ⟨t0, t1⟩ := hB2.two
      by_cases hlt : k < l.length
      · by_cases hlq : k < q.length
        · obtain ⟨b1, o1, a1, c1, rfl, g1, g2, h3⟩ := hl.at_ hw k hlt
          obtain ⟨b2, o2, a2, c2, rfl, g3, g4, h4⟩ := hq.at_ hw k hlq
          have IH := fun w v u => ih l[k] (List.getElem_mem hlt) q[k] w v u
          have q5 := T.cmpL_drop l q k hlt hlq
          have k0 : (0 : Int) ≤ (k : Int) := by omega
          have k1 : (k : Int) < (l.length : Int) := by omega
          have k2 : (k : Int) < (q.length : Int) := by omega
          have r0 := cell_regrown s1
          have r1 := cell_regrown t1
          have r2 := cell_regrown g1
          have r3 := cell_regrown g2
          have r4 := cell_regrown g3
          have r5 := cell_regrown g4
          have Hh3 := Lib.hid h3
          have Hh4 := Lib.hid h4
          have HhB1 := Lib.hid hB1
          have HhB2 := Lib.hid hB2
          have Hhw := Lib.hid hw
          have Hq5 := Lib.hid q5
          have Hhx := Lib.hid hx
          clear h3 h4 hB1 hB2 hw q5 hx
          clear ih hl hq
          by_cases hz : T.cmp l[k] q[k] = 0
          · rw [hz] at IH
            have Hz := Lib.hid hz
            clear hz
            go_wp2_with fail
            refine wp_region_quiet_below (by kernel_rfl) (by kernel_rfl) ?_
            repeat (quiet_step (exact Calls.regrown_of (IH _ _ _ (Hh3.out.below (below_regrown _ _ _)) (Hh4.out.below (below_regrown _ _ _)))))
            refine wpQuiet_nil ?_
            intro _ hw'
            obtain ⟨⟨dq, osq⟩, hw''⟩ := hw'
            subst hw''
            have hbq := below_regrown wr dq osq
            generalize grow (redrawn wr dq) osq = wq at hbq ⊢
            go_wp2_with fail
            go_roundw
            case rel => exact ⟨k + 1, by omega, by omega, by go_num, by unfold Hid; rw [Hhx.out, Hq5.out, if_pos Hz.out], bstep Hhw.out hbq, HhB1.out.below hbq, HhB2.out.below hbq⟩
            case measure => simp [intOf]; omega
          · have hzb : (T.cmp l[k] q[k] != 0) = true := by simpa using hz
            have Hz := Lib.hid hz
            clear hz
            go_wp2_with fail
            refine wp_region_quiet_below (by kernel_rfl) (by kernel_rfl) ?_
            repeat (quiet_step (exact Calls.regrown_of (IH _ _ _ (Hh3.out.below (below_regrown _ _ _)) (Hh4.out.below (below_regrown _ _ _)))))
            refine wpQuiet_nil ?_
            intro _ hw'
            obtain ⟨⟨dq, osq⟩, hw''⟩ := hw'
            subst hw''
            have hbq := below_regrown wr dq osq
            generalize grow (redrawn wr dq) osq = wq at hbq ⊢
            go_wp2_with fail
            go_ret
            exact ⟨rint (by rw [E.out, Hhx.out, Hq5.out, if_neg Hz.out]), bstep Hhw.out hbq⟩
        · have Q := Lib.hid (show T.cmpL (l.drop k) (q.drop k) = 1 from T.cmpL_long l q k hlt (by omega))
          have Hhw := Lib.hid hw
          have Hhx := Lib.hid hx
          clear hw hx
          clear ih hl hq
          go_wp2_with fail
          go_ret
          exact ⟨rint (by rw [E.out, Hhx.out, Q.out]), Hhw.out⟩
      · obtain rfl : k = l.length := by omega
        by_cases hlq : l.length < q.length
        · have Q := Lib.hid (show T.cmpL (l.drop l.length) (q.drop l.length) = -1 from T.cmpL_short l q hlq)
          have Hhw := Lib.hid hw
          have Hhx := Lib.hid hx
          clear hw hx
          clear ih hl hq
          go_wp2_with fail
          go_ret
          exact ⟨rint (by rw [E.out, Hhx.out, Q.out]), Hhw.out⟩
        · have Q := Lib.hid (show T.cmpL (l.drop l.length) (q.drop l.length) = 0 from T.cmpL_end l q (by omega))
          have Hhw := Lib.hid hw
          have Hhx := Lib.hid hx
          clear hw hx
          clear ih hl hq
          go_wp2_with fail
          go_ret
          exact ⟨rint (by rw [E.out, Hhx.out, Q.out]), Hhw.out⟩
  · have hne : (f != g) = true := by simpa using hfg
    by_cases hf : f < 0
    · by_cases hg : g < 0
      · by_cases hlt : g < f
        · have E := Lib.hid (show T.cmp (.mk f l) (.mk g q) = -1 by rw [T.cmp, if_pos hfg, if_pos ⟨hf, hg⟩, if_pos hlt])
          go_enter Try.func33, Try.ntmps33
          go_wp2_with fail
          go_ret
          exact ⟨rint E.out, balloc2 _ _ _⟩
        · have E := Lib.hid (show T.cmp (.mk f l) (.mk g q) = 1 by rw [T.cmp, if_pos hfg, if_pos ⟨hf, hg⟩, if_neg hlt])
          go_enter Try.func33, Try.ntmps33
          go_wp2_with fail
          go_ret
          exact ⟨rint E.out, balloc2 _ _ _⟩
      · have hlt : f < g := by omega
        have E := Lib.hid (show T.cmp (.mk f l) (.mk g q) = -1 by rw [T.cmp, if_pos hfg, if_neg (by omega), if_pos hlt])
        go_enter Try.func33, Try.ntmps33
        go_wp2_with fail
        go_ret
        exact ⟨rint E.out, balloc2 _ _ _⟩
    · by_cases hlt : f < g
      · have E := Lib.hid (show T.cmp (.mk f l) (.mk g q) = -1 by rw [T.cmp, if_pos hfg, if_neg (by omega), if_pos hlt])
        go_enter Try.func33, Try.ntmps33
        go_wp2_with fail
        go_ret
        exact ⟨rint E.out, balloc2 _ _ _⟩
      · have E := Lib.hid (show T.cmp (.mk f l) (.mk g q) = 1 by rw [T.cmp, if_pos hfg, if_neg (by omega), if_neg hlt])
        go_enter Try.func33, Try.ntmps33
        go_wp2_with fail
        go_ret
        exact ⟨rint E.out, balloc2 _ _ _⟩
theorem rsame_any (s t : T) (w : World) (v u : Value) (hv : IsT w s v) (hu : IsT w t u) :
    Calls Try.prog 18 #[v, u] w fun e w' => e = .returned (.bool (T.same s t)) ∧ Below w.heap.size w w' := by
  obtain ⟨_, a, c, rfl, hc, hm, _⟩ := hv.form
  obtain ⟨_, a', c', rfl, hc', hm', _⟩ := hu.form
  unfold maxLen at hm hm'
  have E := T.cmp_same s t
  have C := fun w v u => compare_any s t w v u
  cases hs : T.same s t with
  | true =>
    rw [hs, if_pos rfl] at E
    rw [E] at C
    have Hhv := Lib.hid hv
    have Hhu := Lib.hid hu
    clear hv hu
    clear hs E
    go_enter Try.func18, Try.ntmps18
    go_wp2_with (go_at_call 33; refine (C _ _ _ (Hhv.out.below (balloc2 _ _ _)) (Hhu.out.below (balloc2 _ _ _))).mono ?_; rintro e w' ⟨rfl, hb'⟩)
    go_ret
    exact ⟨rfl, bstep (balloc2 _ _ _) hb'⟩
  | false =>
    rw [hs] at E
    have E' : (T.cmp s t == 0) = false := by simpa using E
    have Hhv := Lib.hid hv
    have Hhu := Lib.hid hu
    clear hv hu
    clear hs E
    go_enter Try.func18, Try.ntmps18
    go_wp2_with (go_at_call 33; refine (C _ _ _ (Hhv.out.below (balloc2 _ _ _)) (Hhu.out.below (balloc2 _ _ _))).mono ?_; rintro e w' ⟨rfl, hb'⟩)
    go_ret
    exact ⟨rfl, bstep (balloc2 _ _ _) hb'⟩
end Go.Proofs.Ythhgidliopohcaa

/- Terms, literals, clauses that are built in a region: what is known of each. -/
namespace Go.Proofs.Ythhgidliopohcaa
open Go.RowKit Go
set_option linter.unusedVariables false
set_option linter.unusedSimpArgs false
/-- The value is a row of terms. -/
def RowT (l : List T) (v : Value) (w : World) : Prop := ∃ (a : Option Addr) (c : Nat), v = .slice a l.length c ∧ l.length ≤ c ∧ c ≤ maxLen ∧ IsTs w l a 0
theorem RowT.below {l : List T} {v : Value} {w w' : World} (hb : Below w.heap.size w w') (h : RowT l v w) : RowT l v w' := by
  obtain ⟨a, c, e, h1, h2, h3⟩ := h
  exact ⟨a, c, e, h1, h2, h3.below hb⟩
theorem RowT.nil {w : World} : RowT [] (.slice none 0 0) w := ⟨none, 0, rfl, Nat.le_refl _, Nat.zero_le _, trivial⟩
/-- The value is a clause. -/
def RowC (l : List Li) (v : Value) (w : World) : Prop := ∃ (a : Option Addr) (c : Nat), v = .slice a l.length c ∧ IsCl w l a c
theorem RowC.below {l : List Li} {v : Value} {w w' : World} (hb : Below w.heap.size w w') (h : RowC l v w) : RowC l v w' := by
  obtain ⟨a, c, e, h1⟩ := h
  exact ⟨a, c, e, h1.below hb⟩
theorem isT_mk {w : World} {f : Int} {l : List T} {a : Option Addr} {n c : Nat} (hf : I64 f) (h : RowT l (.slice a n c) w) : IsT w (.mk f l) (.agg #[.int .i64 f, .slice a n c]) := by
  obtain ⟨a', c', e, h1, h2, h3⟩ := h
  simp only [Value.slice.injEq] at e
  obtain ⟨rfl, rfl, rfl⟩ := e
  exact ⟨hf, _, _, rfl, h1, h2, h3⟩
theorem isT_lf {w : World} {f : Int} (hf : -9223372036854775808 ≤ f ∧ f ≤ 9223372036854775807) : IsT w (.mk f []) (.agg #[.int .i64 f, .slice none 0 0]) := isT_mk hf RowT.nil
end Go.Proofs.Ythhgidliopohcaa

/- Substitutions compared; the example that every law shows. -/
namespace Go.Proofs.Ythhgidliopohcaa
open Go.RowKit Go
set_option linter.unusedVariables false
set_option linter.unusedSimpArgs false
instance : DecidableEq T := fun s t => decidable_of_iff _ (T.same_iff s t)
instance : DecidableEq Bd := fun x y => decidable_of_iff (x.var = y.var ∧ x.t = y.t) (by cases x; cases y; simp)
def subSame (a b : List Bd) : Bool := decide (a = b)
/-- So far they are the same. -/
def EqTo (a b : List Bd) (k : Nat) : Prop := ∀ i, i < k → dget a i = dget b i
theorem bd_eq {x y : Bd} (h1 : x.var = y.var) (h2 : T.same x.t y.t = true) : x = y := by
 obtain ⟨v, t⟩ := x; obtain ⟨u, s⟩ := y
 have := (T.same_iff t s).1 h2
 simp only at h1 this
 rw [h1, this]
theorem EqTo.step {a b : List Bd} {k : Nat} (h : EqTo a b k) (h1 : (dget a k).var = (dget b k).var) (h2 : T.same (dget a k).t (dget b k).t = true) : EqTo a b (k + 1) := fun i hi => by
 rcases Nat.lt_or_ge i k with q | q
 ·exact h i q
 ·obtain rfl : i = k := by omega
  exact bd_eq h1 h2
theorem subSame_all {a b : List Bd} {k : Nat} (hl : a.length = b.length) (h : EqTo a b k) (hk : a.length ≤ k) : subSame a b = true := by
 rw [subSame, decide_eq_true_eq]
 refine List.ext_getElem hl fun i h1 h2 => ?_
 have := h i (by omega)
 rwa [dget_lt h1, dget_lt h2] at this
theorem subSame_len {a b : List Bd} (h : a.length ≠ b.length) : subSame a b = false := by
 rw [subSame, decide_eq_false_iff_not]; rintro rfl; exact h rfl
theorem subSame_at {a b : List Bd} {k : Nat} (h : ¬ ((dget a k).var = (dget b k).var ∧ T.same (dget a k).t (dget b k).t = true)) : subSame a b = false := by
 rw [subSame, decide_eq_false_iff_not]; rintro rfl; exact h ⟨rfl, T.same_refl _⟩
set_option maxRecDepth 100000 in
theorem rsubSame_any (s1 s2 : List Bd) (w : World) (pa pb : Option Addr) (ca cb : Nat) (h1 : s1.length ≤ maxLen) (ha : IsBs w s1 pa) (hb : IsBs w s2 pb) : Calls Try.prog 8 #[.slice pa s1.length ca, .slice pb s2.length cb] w (Ret fun v' w' => v' = .bool (subSame s1 s2) ∧ Below w.heap.size w w') := by
 unfold maxLen at h1
 refine Calls.walk (l := [.slice pa s1.length ca, .slice pb s2.length cb]) Try.func8 rfl (by kernel_rfl) ?_
 refine WC.sub (K' := [(0, .slice pa s1.length ca), (1, .slice pb s2.length cb)]) ⟨rfl, rfl, trivial⟩ ?_
 refine WC.seq (WC.region (WL.asg rfl rfl rfl rfl rfl (WL.nil (WE.next (WC.seq (WC.seq (WC.region (WL.mv rfl rfl rfl rfl rfl ?_))))))))
 refine WL.val (.int .i64 (((s1.length : Nat) : Int))) rfl rfl rfl (fun za zC zh zk => len_24 rfl (zh.ev rfl) zk) ?_
 refine WL.mv rfl rfl rfl rfl rfl ?_
 refine WL.val (.int .i64 (((s2.length : Nat) : Int))) rfl rfl rfl (fun za zC zh zk => len_24 rfl (zh.ev rfl) zk) ?_
 refine WL.val (.bool (((((s1.length : Nat) : Int) : Int) != (((s2.length : Nat) : Int) : Int)))) rfl rfl rfl (fun za zC zh zk => neq_3 rfl (zh.ev rfl) (zh.ev rfl) zk) ?_
 refine WL.nil (WE.next ?_)
 refine WC.cond rfl (fun h1 => ?_) (fun h1 => ?_)
 ·have h1 : (((s1.length : Nat) : Int) : Int) ≠ (((s2.length : Nat) : Int) : Int) := by simpa using h1
  refine WC.seq (WC.region (WL.asg rfl rfl rfl rfl rfl (WL.nil (WE.next (WC.ret (WE.thenRet (WE.ret1 rfl rfl ?_)))))))
  exact ⟨_, rfl, congrArg Value.bool (Eq.symm (subSame_len (by omega))), (Below.refl _ _)⟩
 ·have h1 : ¬ ((((s1.length : Nat) : Int) : Int) ≠ (((s2.length : Nat) : Int) : Int)) := by simpa using h1
  refine WC.skip (WE.next (WC.seq (WC.seq (WC.region (WL.asg rfl rfl rfl rfl rfl (WL.nil (WE.next (WC.block ?_))))))))
  have hlen : s1.length = s2.length := by omega
  refine WC.loop (X := Nat) (fun k => s1.length - k) (fun k => [(0, .slice pa s1.length ca), (1, .slice pb s2.length cb), (5, .int .i64 (((k : Nat) : Int))), (10, .bool (((((s1.length : Nat) : Int) : Int) != (((s2.length : Nat) : Int) : Int))))]) (fun k w2 => k ≤ s1.length ∧ EqTo s1 s2 k ∧ Below w.heap.size w w2) 0 ⟨rfl, rfl, rfl, rfl, trivial⟩ ?_ ?_
  ·exact ⟨Nat.zero_le _, fun i h => absurd h (Nat.not_lt_zero i), (Below.refl _ _)⟩
  ·rintro k w2 ⟨hk, hE, hb3⟩
   refine WC.seq (WC.seq (WC.region (WL.mv rfl rfl rfl rfl rfl (WL.mv rfl rfl rfl rfl rfl ?_))))
   refine WL.val (.int .i64 (((s1.length : Nat) : Int))) rfl rfl rfl (fun za zC zh zk => len_24 rfl (zh.ev rfl) zk) ?_
   refine WL.val (.bool ((decide ((((k : Nat) : Int) : Int) < (((s1.length : Nat) : Int) : Int))))) rfl rfl rfl (fun za zC zh zk => lss_3 rfl (zh.ev rfl) (zh.ev rfl) zk) ?_
   refine WL.nil (WE.next ?_)
   refine WC.cond rfl (fun h4 => ?_) (fun h4 => ?_)
   ·have h4 : (((k : Nat) : Int) : Int) < (((s1.length : Nat) : Int) : Int) := by simpa using h4
    refine WC.skip (WE.next (WC.seq (WC.block (WC.seq ?_))))
    obtain ⟨b5, o6, A7, C8, ha9, hc10⟩ := InRow.openB ha
    obtain ⟨b11, o12, A13, C14, ha15, hc16⟩ := InRow.openB hb
    refine WC.opt [(true, .val (.slice pa s1.length ca)), (true, .val (.int .i64 (((k : Nat) : Int)))), (true, .val (.pointer (some ⟨b5, o6 + k * 3, none⟩))), (true, .val (.pointer (some ⟨b5, o6 + k * 3, none⟩))), (true, .val (.int .i64 ((dget s1 k).var))), (true, .val (.slice pb s2.length cb)), (true, .val (.int .i64 (((k : Nat) : Int)))), (true, .val (.pointer (some ⟨b11, o12 + k * 3, none⟩))), (true, .val (.pointer (some ⟨b11, o12 + k * 3, none⟩))), (true, .val (.int .i64 ((dget s2 k).var))), (true, .val (.bool ((((dget s1 k).var : Int) != ((dget s2 k).var : Int))))), (true, .val (.bool ((((dget s1 k).var : Int) != ((dget s2 k).var : Int))))), ((true && !(((dget s1 k).var : Int) != ((dget s2 k).var : Int))), .val (.slice pa s1.length ca)), ((true && !(((dget s1 k).var : Int) != ((dget s2 k).var : Int))), .val (.int .i64 (((k : Nat) : Int)))), ((true && !(((dget s1 k).var : Int) != ((dget s2 k).var : Int))), .val (.pointer (some ⟨b5, o6 + k * 3, none⟩))), ((true && !(((dget s1 k).var : Int) != ((dget s2 k).var : Int))), .val (.pointer (some ⟨b5, o6 + k * 3 + 1, none⟩))), ((true && !(((dget s1 k).var : Int) != ((dget s2 k).var : Int))), .val (.agg #[.int .i64 ((dget s1 k).t.f), .slice ((A7 k)) ((dget s1 k).t.args.length) ((C8 k))])), ((true && !(((dget s1 k).var : Int) != ((dget s2 k).var : Int))), .val (.slice pb s2.length cb)), ((true && !(((dget s1 k).var : Int) != ((dget s2 k).var : Int))), .val (.int .i64 (((k : Nat) : Int)))), ((true && !(((dget s1 k).var : Int) != ((dget s2 k).var : Int))), .val (.pointer (some ⟨b11, o12 + k * 3, none⟩))), ((true && !(((dget s1 k).var : Int) != ((dget s2 k).var : Int))), .val (.pointer (some ⟨b11, o12 + k * 3 + 1, none⟩))), ((true && !(((dget s1 k).var : Int) != ((dget s2 k).var : Int))), .val (.agg #[.int .i64 ((dget s2 k).t.f), .slice ((A13 k)) ((dget s2 k).t.args.length) ((C14 k))])), ((true && !(((dget s1 k).var : Int) != ((dget s2 k).var : Int))), .val (.bool ((T.same (dget s1 k).t (dget s2 k).t)))), ((true && !(((dget s1 k).var : Int) != ((dget s2 k).var : Int))), .val (.bool ((!(T.same (dget s1 k).t (dget s2 k).t))))), (true, .val (.bool (((((dget s1 k).var : Int) != ((dget s2 k).var : Int)) || (!(T.same (dget s1 k).t (dget s2 k).t))))))] [(0, .slice pa s1.length ca), (1, .slice pb s2.length cb), (5, .int .i64 (((k : Nat) : Int))), (10, .bool (((((s1.length : Nat) : Int) : Int) != (((s2.length : Nat) : Int) : Int)))), (14, .bool ((decide ((((k : Nat) : Int) : Int) < (((s1.length : Nat) : Int) : Int)))))] ⟨rfl, rfl, rfl, rfl, rfl, trivial⟩ (by kernel_rfl) (by kernel_rfl) (by kernel_rfl) ?_ ?_
    ·refine ⟨⟨true, .none rfl, fun h w => optUndef h, fun zβ za zw zc => ?_⟩, ?_⟩
     ·exact wp_move rfl (zc.kn.ev rfl) ⟨_, rfl, Below.refl _ _, optDef zβ rfl⟩
     refine ⟨⟨true, .none rfl, fun h w => optUndef h, fun zβ za zw zc => ?_⟩, ?_⟩
     ·exact wp_move rfl (zc.kn.ev rfl) ⟨_, rfl, Below.refl _ _, optDef zβ rfl⟩
     refine ⟨⟨true, .none rfl, fun h w => optUndef h, fun zβ za zw zc => ?_⟩, ?_⟩
     ·exact ix_24 (k := k) rfl ((evt za 17).trans (optVal (zc.dep 0 17 (by kernel_rfl)) rfl rfl)) (ha9 k (by first | omega | (simp; omega))) ((evt za 18).trans (optVal (zc.dep 1 18 (by kernel_rfl)) rfl rfl)) (by first | omega | (simp; omega)) ⟨_, rfl, Below.refl _ _, optDef zβ rfl⟩
     refine ⟨⟨true, .none rfl, fun h w => optUndef h, fun zβ za zw zc => ?_⟩, ?_⟩
     ·exact fld_41_0 rfl ((evt za 19).trans (optVal (zc.dep 2 19 (by kernel_rfl)) rfl rfl)) ⟨_, rfl, Below.refl _ _, optDef zβ rfl⟩
     refine ⟨⟨true, .none rfl, fun h w => optUndef h, fun zβ za zw zc => ?_⟩, ?_⟩
     ·exact ld_3 rfl ((evt za 20).trans (optVal (zc.dep 3 20 (by kernel_rfl)) rfl rfl)) (bkeeps (bstep hb3 zc.below) _ _ (hc10 k (by first | omega | (simp; omega))).1) ⟨_, rfl, Below.refl _ _, optDef zβ rfl⟩
     refine ⟨⟨true, .none rfl, fun h w => optUndef h, fun zβ za zw zc => ?_⟩, ?_⟩
     ·exact wp_move rfl (zc.kn.ev rfl) ⟨_, rfl, Below.refl _ _, optDef zβ rfl⟩
     refine ⟨⟨true, .none rfl, fun h w => optUndef h, fun zβ za zw zc => ?_⟩, ?_⟩
     ·exact wp_move rfl (zc.kn.ev rfl) ⟨_, rfl, Below.refl _ _, optDef zβ rfl⟩
     refine ⟨⟨true, .none rfl, fun h w => optUndef h, fun zβ za zw zc => ?_⟩, ?_⟩
     ·exact ix_24 (k := k) rfl ((evt za 22).trans (optVal (zc.dep 5 22 (by kernel_rfl)) rfl rfl)) (ha15 k (by first | omega | (simp; omega))) ((evt za 23).trans (optVal (zc.dep 6 23 (by kernel_rfl)) rfl rfl)) (by first | omega | (simp; omega)) ⟨_, rfl, Below.refl _ _, optDef zβ rfl⟩
     refine ⟨⟨true, .none rfl, fun h w => optUndef h, fun zβ za zw zc => ?_⟩, ?_⟩
     ·exact fld_41_0 rfl ((evt za 24).trans (optVal (zc.dep 7 24 (by kernel_rfl)) rfl rfl)) ⟨_, rfl, Below.refl _ _, optDef zβ rfl⟩
     refine ⟨⟨true, .none rfl, fun h w => optUndef h, fun zβ za zw zc => ?_⟩, ?_⟩
     ·exact ld_3 rfl ((evt za 25).trans (optVal (zc.dep 8 25 (by kernel_rfl)) rfl rfl)) (bkeeps (bstep hb3 zc.below) _ _ (hc16 k (by first | omega | (simp; omega))).1) ⟨_, rfl, Below.refl _ _, optDef zβ rfl⟩
     refine ⟨⟨true, .none rfl, fun h w => optUndef h, fun zβ za zw zc => ?_⟩, ?_⟩
     ·exact neq_3 rfl ((evt za 21).trans (optVal (zc.dep 4 21 (by kernel_rfl)) rfl rfl)) ((evt za 26).trans (optVal (zc.dep 9 26 (by kernel_rfl)) rfl rfl)) ⟨_, rfl, Below.refl _ _, optDef zβ rfl⟩
     refine ⟨⟨true, .none rfl, fun h w => optUndef h, fun zβ za zw zc => ?_⟩, ?_⟩
     ·exact wp_move rfl ((evt za 27).trans (optVal (zc.dep 10 27 (by kernel_rfl)) rfl rfl)) ⟨_, rfl, Below.refl _ _, optDef zβ rfl⟩
     refine ⟨⟨_, .no (c := (((dget s1 k).var : Int) != ((dget s2 k).var : Int))) (d := true) rfl (fun v w h => h), fun h w => optUndef h, fun zβ za zw zc => ?_⟩, ?_⟩
     ·exact wp_move rfl (zc.kn.ev rfl) ⟨_, rfl, Below.refl _ _, optDef zβ rfl⟩
     refine ⟨⟨_, .no (c := (((dget s1 k).var : Int) != ((dget s2 k).var : Int))) (d := true) rfl (fun v w h => h), fun h w => optUndef h, fun zβ za zw zc => ?_⟩, ?_⟩
     ·exact wp_move rfl (zc.kn.ev rfl) ⟨_, rfl, Below.refl _ _, optDef zβ rfl⟩
     refine ⟨⟨_, .no (c := (((dget s1 k).var : Int) != ((dget s2 k).var : Int))) (d := true) rfl (fun v w h => h), fun h w => optUndef h, fun zβ za zw zc => ?_⟩, ?_⟩
     ·exact ix_24 (k := k) rfl ((evt za 29).trans (optVal (zc.dep 12 29 (by kernel_rfl)) rfl zβ)) (ha9 k (by first | omega | (have zz := zβ; simp only [Bool.and_eq_true, Bool.or_eq_true, Bool.true_and, Bool.not_eq_true', Bool.or_eq_false_iff, Bool.and_eq_false_iff, beq_eq_false_iff_ne, ne_eq, beq_iff_eq, decide_eq_true_eq, decide_eq_false_iff_not, bne_iff_ne, bne_eq_false_iff_eq] at zz; omega))) ((evt za 30).trans (optVal (zc.dep 13 30 (by kernel_rfl)) rfl zβ)) (by first | omega | (have zz := zβ; simp only [Bool.and_eq_true, Bool.or_eq_true, Bool.true_and, Bool.not_eq_true', Bool.or_eq_false_iff, Bool.and_eq_false_iff, beq_eq_false_iff_ne, ne_eq, beq_iff_eq, decide_eq_true_eq, decide_eq_false_iff_not, bne_iff_ne, bne_eq_false_iff_eq] at zz; omega)) ⟨_, rfl, Below.refl _ _, optDef zβ rfl⟩
     refine ⟨⟨_, .no (c := (((dget s1 k).var : Int) != ((dget s2 k).var : Int))) (d := true) rfl (fun v w h => h), fun h w => optUndef h, fun zβ za zw zc => ?_⟩, ?_⟩
     ·exact fld_41_1 rfl ((evt za 31).trans (optVal (zc.dep 14 31 (by kernel_rfl)) rfl zβ)) ⟨_, rfl, Below.refl _ _, optDef zβ rfl⟩
     refine ⟨⟨_, .no (c := (((dget s1 k).var : Int) != ((dget s2 k).var : Int))) (d := true) rfl (fun v w h => h), fun h w => optUndef h, fun zβ za zw zc => ?_⟩, ?_⟩
     ·exact ld_32 rfl ((evt za 32).trans (optVal (zc.dep 15 32 (by kernel_rfl)) rfl zβ)) (bkeeps (bstep hb3 zc.below) _ _ (hc10 k (by first | omega | (have zz := zβ; simp only [Bool.and_eq_true, Bool.or_eq_true, Bool.true_and, Bool.not_eq_true', Bool.or_eq_false_iff, Bool.and_eq_false_iff, beq_eq_false_iff_ne, ne_eq, beq_iff_eq, decide_eq_true_eq, decide_eq_false_iff_not, bne_iff_ne, bne_eq_false_iff_eq] at zz; omega))).2.1) (bkeeps (bstep hb3 zc.below) _ _ (hc10 k (by first | omega | (have zz := zβ; simp only [Bool.and_eq_true, Bool.or_eq_true, Bool.true_and, Bool.not_eq_true', Bool.or_eq_false_iff, Bool.and_eq_false_iff, beq_eq_false_iff_ne, ne_eq, beq_iff_eq, decide_eq_true_eq, decide_eq_false_iff_not, bne_iff_ne, bne_eq_false_iff_eq] at zz; omega))).2.2.1) ⟨_, rfl, Below.refl _ _, optDef zβ rfl⟩
     refine ⟨⟨_, .no (c := (((dget s1 k).var : Int) != ((dget s2 k).var : Int))) (d := true) rfl (fun v w h => h), fun h w => optUndef h, fun zβ za zw zc => ?_⟩, ?_⟩
     ·exact wp_move rfl (zc.kn.ev rfl) ⟨_, rfl, Below.refl _ _, optDef zβ rfl⟩
     refine ⟨⟨_, .no (c := (((dget s1 k).var : Int) != ((dget s2 k).var : Int))) (d := true) rfl (fun v w h => h), fun h w => optUndef h, fun zβ za zw zc => ?_⟩, ?_⟩
     ·exact wp_move rfl (zc.kn.ev rfl) ⟨_, rfl, Below.refl _ _, optDef zβ rfl⟩
     refine ⟨⟨_, .no (c := (((dget s1 k).var : Int) != ((dget s2 k).var : Int))) (d := true) rfl (fun v w h => h), fun h w => optUndef h, fun zβ za zw zc => ?_⟩, ?_⟩
     ·exact ix_24 (k := k) rfl ((evt za 34).trans (optVal (zc.dep 17 34 (by kernel_rfl)) rfl zβ)) (ha15 k (by first | omega | (have zz := zβ; simp only [Bool.and_eq_true, Bool.or_eq_true, Bool.true_and, Bool.not_eq_true', Bool.or_eq_false_iff, Bool.and_eq_false_iff, beq_eq_false_iff_ne, ne_eq, beq_iff_eq, decide_eq_true_eq, decide_eq_false_iff_not, bne_iff_ne, bne_eq_false_iff_eq] at zz; omega))) ((evt za 35).trans (optVal (zc.dep 18 35 (by kernel_rfl)) rfl zβ)) (by first | omega | (have zz := zβ; simp only [Bool.and_eq_true, Bool.or_eq_true, Bool.true_and, Bool.not_eq_true', Bool.or_eq_false_iff, Bool.and_eq_false_iff, beq_eq_false_iff_ne, ne_eq, beq_iff_eq, decide_eq_true_eq, decide_eq_false_iff_not, bne_iff_ne, bne_eq_false_iff_eq] at zz; omega)) ⟨_, rfl, Below.refl _ _, optDef zβ rfl⟩
     refine ⟨⟨_, .no (c := (((dget s1 k).var : Int) != ((dget s2 k).var : Int))) (d := true) rfl (fun v w h => h), fun h w => optUndef h, fun zβ za zw zc => ?_⟩, ?_⟩
     ·exact fld_41_1 rfl ((evt za 36).trans (optVal (zc.dep 19 36 (by kernel_rfl)) rfl zβ)) ⟨_, rfl, Below.refl _ _, optDef zβ rfl⟩
     refine ⟨⟨_, .no (c := (((dget s1 k).var : Int) != ((dget s2 k).var : Int))) (d := true) rfl (fun v w h => h), fun h w => optUndef h, fun zβ za zw zc => ?_⟩, ?_⟩
     ·exact ld_32 rfl ((evt za 37).trans (optVal (zc.dep 20 37 (by kernel_rfl)) rfl zβ)) (bkeeps (bstep hb3 zc.below) _ _ (hc16 k (by first | omega | (have zz := zβ; simp only [Bool.and_eq_true, Bool.or_eq_true, Bool.true_and, Bool.not_eq_true', Bool.or_eq_false_iff, Bool.and_eq_false_iff, beq_eq_false_iff_ne, ne_eq, beq_iff_eq, decide_eq_true_eq, decide_eq_false_iff_not, bne_iff_ne, bne_eq_false_iff_eq] at zz; omega))).2.1) (bkeeps (bstep hb3 zc.below) _ _ (hc16 k (by first | omega | (have zz := zβ; simp only [Bool.and_eq_true, Bool.or_eq_true, Bool.true_and, Bool.not_eq_true', Bool.or_eq_false_iff, Bool.and_eq_false_iff, beq_eq_false_iff_ne, ne_eq, beq_iff_eq, decide_eq_true_eq, decide_eq_false_iff_not, bne_iff_ne, bne_eq_false_iff_eq] at zz; omega))).2.2.1) ⟨_, rfl, Below.refl _ _, optDef zβ rfl⟩
     refine ⟨⟨_, .no (c := (((dget s1 k).var : Int) != ((dget s2 k).var : Int))) (d := true) rfl (fun v w h => h), fun h w => optUndef h, fun zβ za zw zc => ?_⟩, ?_⟩
     ·exact wp_call (by kernel_rfl) rfl (hv2 ((evt za 33).trans (optVal (zc.dep 16 33 (by kernel_rfl)) rfl zβ)) ((evt za 38).trans (optVal (zc.dep 21 38 (by kernel_rfl)) rfl zβ))) (ret_of (rsame_any _ _ _ _ _ (IsT.below (bstep hb3 zc.below) (InT.isT (hc10 k (by first | omega | (have zz := zβ; simp only [Bool.and_eq_true, Bool.or_eq_true, Bool.true_and, Bool.not_eq_true', Bool.or_eq_false_iff, Bool.and_eq_false_iff, beq_eq_false_iff_ne, ne_eq, beq_iff_eq, decide_eq_true_eq, decide_eq_false_iff_not, bne_iff_ne, bne_eq_false_iff_eq] at zz; omega))).2.2.2.1)) (IsT.below (bstep hb3 zc.below) (InT.isT (hc16 k (by first | omega | (have zz := zβ; simp only [Bool.and_eq_true, Bool.or_eq_true, Bool.true_and, Bool.not_eq_true', Bool.or_eq_false_iff, Bool.and_eq_false_iff, beq_eq_false_iff_ne, ne_eq, beq_iff_eq, decide_eq_true_eq, decide_eq_false_iff_not, bne_iff_ne, bne_eq_false_iff_eq] at zz; omega))).2.2.2.1)))) (fun v w' h => ⟨v, rfl, h.2, optDef zβ h.1⟩)
     refine ⟨⟨_, .no (c := (((dget s1 k).var : Int) != ((dget s2 k).var : Int))) (d := true) rfl (fun v w h => h), fun h w => optUndef h, fun zβ za zw zc => ?_⟩, ?_⟩
     ·exact wp_not rfl ((evt za 39).trans (optVal (zc.dep 22 39 (by kernel_rfl)) rfl zβ)) ⟨_, rfl, Below.refl _ _, optDef zβ rfl⟩
     refine ⟨⟨true, .none rfl, fun h w => optUndef h, fun zβ za zw zc => ?_⟩, ?_⟩
     ·exact wp_or rfl ((evt za 28).trans (optVal (zc.dep 11 28 (by kernel_rfl)) rfl rfl)) (fun hp => ((evt za 40).trans (optVal (zc.dep 23 40 (by kernel_rfl)) rfl (bMkN zβ hp)))) ⟨_, rfl, Below.refl _ _, optDef zβ rfl⟩
     exact trivial
    ·intro za w17 zh hb18 zu
     have zh := zh.cons (d := 41) (v := .bool (((((dget s1 k).var : Int) != ((dget s2 k).var : Int)) || (!(T.same (dget s1 k).t (dget s2 k).t))))) (optVal (zu 24 41 (by kernel_rfl)) rfl rfl)
     clear zu
     refine WE.go zh ?_
     refine WE.next ?_
     refine WC.cond rfl (fun h19 => ?_) (fun h19 => ?_)
     ·have h19 : (((dget s1 k).var : Int) ≠ ((dget s2 k).var : Int)) ∨ (¬ ((T.same (dget s1 k).t (dget s2 k).t) = true)) := by simpa using h19
      refine WC.seq (WC.region (WL.asg rfl rfl rfl rfl rfl (WL.nil (WE.next (WC.ret (WE.blockRet (WE.thenRet (WE.thenRet (WE.blockRet (WE.thenRet (WE.ret1 rfl rfl ?_)))))))))))
      have hb20 : Below w.heap.size w w17 := (bstep hb3 hb18)
      exact ⟨_, rfl, congrArg Value.bool (Eq.symm (subSame_at (fun hh => by have z := h19; simp at z; rcases z with z | z; exact z hh.1; rw [hh.2] at z; cases z))), hb20⟩
     ·have h19 : ¬ ((((dget s1 k).var : Int) ≠ ((dget s2 k).var : Int)) ∨ (¬ ((T.same (dget s1 k).t (dget s2 k).t) = true))) := by simpa using h19
      refine WC.skip (WE.blockNormal (WE.next (WC.region (WL.mv rfl rfl rfl rfl rfl ?_))))
      refine WL.val (.int .i64 ((((k + 1) : Nat) : Int))) rfl rfl rfl (fun za zC zh zk => addb_3 rfl (zh.ev rfl) (zh.ev rfl) (wrap_eq (by omega) (by omega) (by omega)) zk) ?_
      refine WL.asg rfl rfl rfl rfl rfl (WL.nil ?_)
      refine WE.round (k + 1) ⟨rfl, rfl, rfl, rfl, trivial⟩ ?_ ?_
      ·have hb21 : Below w.heap.size w w17 := (bstep hb3 hb18)
       exact ⟨by omega, hE.step (by have z := h19; simp at z; omega) (by have z := h19; simp at z; exact z.2), hb21⟩
      ·omega
   ·have h4 : ¬ ((((k : Nat) : Int) : Int) < (((s1.length : Nat) : Int) : Int)) := by simpa using h4
    refine WC.exit (WE.thenExit (WE.thenExit (WE.blockIs rfl (WE.next (WC.seq (WC.region (WL.asg rfl rfl rfl rfl rfl (WL.nil (WE.next (WC.ret (WE.ret1 rfl rfl ?_)))))))))))
    exact ⟨_, rfl, congrArg Value.bool (Eq.symm (subSame_all hlen hE (by omega))), hb3⟩
theorem can_wk {w : World} {v1 v2 : Value} (h1 : IsT w wkF v1) (h2 : IsT w wkH v2) : Calls Try.prog 11 #[v1, v2] w (Ret fun v' w' => v' = .bool true ∧ Below w.heap.size w w') := by
 refine (pcan_any wkF wkH w v1 v2 h1 h2).mono ?_
 rintro e w' ⟨v, rfl, ⟨b, rfl, hb⟩, h⟩
 exact ⟨_, rfl, by rw [wk_can hb], h⟩
theorem wk_facts {bs : List Bd} {e : Int} (h : PairsIs true [(wkF, wkH)] bs e) : e = 0 ∧ bs.length = 2 ∧ (dget bs 0).t.f = 2 ∧ (dget bs 1).t.f = 1 := by
 obtain ⟨rfl, rfl⟩ := wk_pairs h
 exact ⟨rfl, rfl, rfl, rfl⟩
set_option maxRecDepth 100000 in
theorem wakes_any (w : World) : Calls Try.prog 13 #[] w (Ret fun v' w' => v' = .bool true ∧ Below w.heap.size w w') := by
 skip
 refine Calls.walk (l := []) Try.func13 rfl (by kernel_rfl) ?_
 refine WC.sub (K' := []) trivial ?_
 refine WC.seq (WC.region (WL.asg rfl rfl rfl rfl rfl (WL.nil (WE.next (WC.seq (WC.region ?_))))))
 refine WL.val (.agg #[.int .i64 ((-2)), .slice none 0 0]) rfl rfl rfl (fun za zC zh zk => build_32_0 rfl (zh.ev rfl) zk) ?_
 refine WL.step (post := NewRow w 32 #[.int .i64 ((-2)), .slice none 0 0] 1) rfl rfl rfl (fun za zC zh zk => row_30_1 rfl (zh.ev rfl) (zk _ _ (newRow _ _ _ _))) ?_
 rintro _ w1 ⟨g2, rfl, hg3, hB4, hb5, hz6⟩
 have hl7 : w.heap.size ≤ g2 := by omega
 refine WL.val (.agg #[.int .i64 2, .slice ((some ⟨g2, 0, none⟩)) 1 1]) rfl rfl rfl (fun za zC zh zk => build_32_0_1 rfl (zh.ev rfl) (zh.ev rfl) zk) ?_
 refine WL.step (post := NewBlk w1 32 #[.int .i64 0, .slice none 0 0]) rfl rfl rfl (fun za zC zh zk => alloc_32 rfl (zk _ _ (newBlk _ _ _))) ?_
 rintro _ w8 ⟨g9, rfl, hg10, hB11, hb12, hz13⟩
 have hl14 : g2 < g9 := by have z1 := hB4.lt; omega
 have hl15 : w.heap.size ≤ g9 := by have z2 := (hb5).size; omega
 refine WL.step (post := fun _ w' => Upd g9 w8 w' ∧ Blk w' g9 32 #[.int .i64 2, .slice ((some ⟨g2, 0, none⟩)) 1 1]) rfl rfl rfl (fun za zC zh zk => st_32 rfl (zh.ev rfl) (zh.ev rfl) rfl rfl hB11 (by first | decide | simp) (fun v => zk v _ ⟨(Upd.at_ _ _ _ _).trans (Upd.at_ _ _ _ _), (hB11.set_ 0 _).set_ 1 _⟩)) ?_
 rintro v19 w16 ⟨hu17, hB18⟩
 have hb20 : Below w.heap.size w w8 := (bstep hb5 hb12)
 have hb21 := upd_below hb20 hu17 (by omega)
 have hB22 := hB4.below hb12
 have hB23 := upd_blk hB22 hu17 (by omega)
 refine WL.nil (WE.next (WC.seq (WC.region ?_)))
 refine WL.val (.agg #[.int .i64 ((-1)), .slice none 0 0]) rfl rfl rfl (fun za zC zh zk => build_32_0 rfl (zh.ev rfl) zk) ?_
 refine WL.val (.agg #[.int .i64 1, .slice none 0 0]) rfl rfl rfl (fun za zC zh zk => build_32_0 rfl (zh.ev rfl) zk) ?_
 refine WL.step (post := NewRow w16 32 #[.int .i64 ((-1)), .slice none 0 0, .int .i64 1, .slice none 0 0] 2) rfl rfl rfl (fun za zC zh zk => row_30_2 rfl (zh.ev rfl) (zh.ev rfl) (zk _ _ (newRow _ _ _ _))) ?_
 rintro _ w24 ⟨g25, rfl, hg26, hB27, hb28, hz29⟩
 have hl30 : g2 < g25 := by have z1 := hB23.lt; omega
 have hl31 : g9 < g25 := by have z1 := hB18.lt; omega
 have hl32 : w.heap.size ≤ g25 := by have z2 := (hb21).size; omega
 refine WL.val (.agg #[.int .i64 3, .slice ((some ⟨g25, 0, none⟩)) 2 2]) rfl rfl rfl (fun za zC zh zk => build_32_0_1 rfl (zh.ev rfl) (zh.ev rfl) zk) ?_
 refine WL.step (post := NewBlk w24 32 #[.int .i64 0, .slice none 0 0]) rfl rfl rfl (fun za zC zh zk => alloc_32 rfl (zk _ _ (newBlk _ _ _))) ?_
 rintro _ w33 ⟨g34, rfl, hg35, hB36, hb37, hz38⟩
 have hl39 : g2 < g34 := by have z1 := hB23.lt; have z2 := (hb28).size; omega
 have hl40 : g9 < g34 := by have z1 := hB18.lt; have z2 := (hb28).size; omega
 have hl41 : g25 < g34 := by have z1 := hB27.lt; omega
 have hb42 : Below w.heap.size w w24 := (bstep hb21 hb28)
 have hl43 : w.heap.size ≤ g34 := by have z2 := (hb42).size; omega
 refine WL.step (post := fun _ w' => Upd g34 w33 w' ∧ Blk w' g34 32 #[.int .i64 3, .slice ((some ⟨g25, 0, none⟩)) 2 2]) rfl rfl rfl (fun za zC zh zk => st_32 rfl (zh.ev rfl) (zh.ev rfl) rfl rfl hB36 (by first | decide | simp) (fun v => zk v _ ⟨(Upd.at_ _ _ _ _).trans (Upd.at_ _ _ _ _), (hB36.set_ 0 _).set_ 1 _⟩)) ?_
 rintro v47 w44 ⟨hu45, hB46⟩
 have hb48 : Below w.heap.size w w33 := (bstep hb42 hb37)
 have hb49 := upd_below hb48 hu45 (by omega)
 have hb51 : Below w16.heap.size w16 w33 := (bstep hb28 hb37)
 have hB50 := hB23.below hb51
 have hB52 := upd_blk hB50 hu45 (by omega)
 have hB53 := hB18.below hb51
 have hB54 := upd_blk hB53 hu45 (by omega)
 have hB55 := hB27.below hb37
 have hB56 := upd_blk hB55 hu45 (by omega)
 refine WL.nil (WE.next (WC.seq (WC.region ?_)))
 refine WL.val _ rfl rfl rfl (fun za zC zh zk => ld_32 rfl (zh.ev rfl) ((hB54.cell 0).trans rfl) ((hB54.cell 1).trans rfl) zk) ?_
 refine WL.val (.agg #[.int .i64 ((-2)), .slice none 0 0]) rfl rfl rfl (fun za zC zh zk => build_32_0 rfl (zh.ev rfl) zk) ?_
 refine WL.step (post := NewRow w44 32 #[.int .i64 2, .slice ((some ⟨g2, 0, none⟩)) 1 1, .int .i64 ((-2)), .slice none 0 0] 2) rfl rfl rfl (fun za zC zh zk => row_30_2 rfl (zh.ev rfl) (zh.ev rfl) (zk _ _ (newRow _ _ _ _))) ?_
 rintro _ w57 ⟨g58, rfl, hg59, hB60, hb61, hz62⟩
 have hl63 : g2 < g58 := by have z1 := hB52.lt; omega
 have hl64 : g9 < g58 := by have z1 := hB54.lt; omega
 have hl65 : g25 < g58 := by have z1 := hB56.lt; omega
 have hl66 : g34 < g58 := by have z1 := hB46.lt; omega
 have hl67 : w.heap.size ≤ g58 := by have z2 := (hb49).size; omega
 refine WL.val (.agg #[.int .i64 3, .slice ((some ⟨g58, 0, none⟩)) 2 2]) rfl rfl rfl (fun za zC zh zk => build_32_0_1 rfl (zh.ev rfl) (zh.ev rfl) zk) ?_
 refine WL.step (post := NewBlk w57 32 #[.int .i64 0, .slice none 0 0]) rfl rfl rfl (fun za zC zh zk => alloc_32 rfl (zk _ _ (newBlk _ _ _))) ?_
 rintro _ w68 ⟨g69, rfl, hg70, hB71, hb72, hz73⟩
 have hl74 : g2 < g69 := by have z1 := hB52.lt; have z2 := (hb61).size; omega
 have hl75 : g9 < g69 := by have z1 := hB54.lt; have z2 := (hb61).size; omega
 have hl76 : g25 < g69 := by have z1 := hB56.lt; have z2 := (hb61).size; omega
 have hl77 : g34 < g69 := by have z1 := hB46.lt; have z2 := (hb61).size; omega
 have hl78 : g58 < g69 := by have z1 := hB60.lt; omega
 have hb79 : Below w.heap.size w w57 := (bstep hb49 hb61)
 have hl80 : w.heap.size ≤ g69 := by have z2 := (hb79).size; omega
 refine WL.step (post := fun _ w' => Upd g69 w68 w' ∧ Blk w' g69 32 #[.int .i64 3, .slice ((some ⟨g58, 0, none⟩)) 2 2]) rfl rfl rfl (fun za zC zh zk => st_32 rfl (zh.ev rfl) (zh.ev rfl) rfl rfl hB71 (by first | decide | simp) (fun v => zk v _ ⟨(Upd.at_ _ _ _ _).trans (Upd.at_ _ _ _ _), (hB71.set_ 0 _).set_ 1 _⟩)) ?_
 rintro v84 w81 ⟨hu82, hB83⟩
 have hb85 : Below w.heap.size w w68 := (bstep hb79 hb72)
 have hb86 := upd_below hb85 hu82 (by omega)
 have hb88 : Below w44.heap.size w44 w68 := (bstep hb61 hb72)
 have hB87 := hB52.below hb88
 have hB89 := upd_blk hB87 hu82 (by omega)
 have hB90 := hB54.below hb88
 have hB91 := upd_blk hB90 hu82 (by omega)
 have hB92 := hB56.below hb88
 have hB93 := upd_blk hB92 hu82 (by omega)
 have hB94 := hB46.below hb88
 have hB95 := upd_blk hB94 hu82 (by omega)
 have hB96 := hB60.below hb72
 have hB97 := upd_blk hB96 hu82 (by omega)
 refine WL.nil (WE.next (WC.seq (WC.region ?_)))
 refine WL.val _ rfl rfl rfl (fun za zC zh zk => ld_32 rfl (zh.ev rfl) ((hB95.cell 0).trans rfl) ((hB95.cell 1).trans rfl) zk) ?_
 refine WL.val _ rfl rfl rfl (fun za zC zh zk => ld_32 rfl (zh.ev rfl) ((hB83.cell 0).trans rfl) ((hB83.cell 1).trans rfl) zk) ?_
 have hT98 : IsT w81 wkF (.agg #[.int .i64 3, .slice ((some ⟨g25, 0, none⟩)) 2 2]) := (isT_mk (by unfold I64; decide) ⟨_, _, rfl, Nat.le_refl _, by unfold maxLen; decide, ⟨⟨_, 0, _, _, rfl, (hB93.cell _).trans rfl, (hB93.cell _).trans rfl, (isT_lf (by decide))⟩, ⟨⟨_, 0, _, _, rfl, (hB93.cell _).trans rfl, (hB93.cell _).trans rfl, (isT_lf (by decide))⟩, trivial⟩⟩⟩)
 have hT99 : IsT w81 wkH (.agg #[.int .i64 3, .slice ((some ⟨g58, 0, none⟩)) 2 2]) := (isT_mk (by unfold I64; decide) ⟨_, _, rfl, Nat.le_refl _, by unfold maxLen; decide, ⟨⟨_, 0, _, _, rfl, (hB97.cell _).trans rfl, (hB97.cell _).trans rfl, (isT_mk (by unfold I64; decide) ⟨_, _, rfl, Nat.le_refl _, by unfold maxLen; decide, ⟨⟨_, 0, _, _, rfl, (hB89.cell _).trans rfl, (hB89.cell _).trans rfl, (isT_lf (by decide))⟩, trivial⟩⟩)⟩, ⟨⟨_, 0, _, _, rfl, (hB97.cell _).trans rfl, (hB97.cell _).trans rfl, (isT_lf (by decide))⟩, trivial⟩⟩⟩)
 refine WL.call rfl rfl rfl (fun za zh zC => wp_call (by kernel_rfl) rfl (hv2 (zh.ev rfl) (zh.ev rfl))) (pterms_any wkF wkH _ _ _ hT98 hT99) ?_
 rintro _ w101 ⟨⟨bsc1, rac1, rcc1, ec1, rfl, hPc1, hRc1, _⟩, hb100⟩
 refine WL.mv rfl rfl rfl rfl rfl ?_
 refine WL.val (.slice rac1 bsc1.length rcc1) rfl rfl rfl (fun za zC zh zk => ext2_0 rfl (zh.ev rfl) zk) ?_
 refine WL.val (.int .i64 ec1) rfl rfl rfl (fun za zC zh zk => ext2_1 rfl (zh.ev rfl) zk) ?_
 refine WL.asg rfl rfl rfl rfl rfl (WL.asg rfl rfl rfl rfl rfl ?_)
 refine WL.nil (WE.sub (K' := [(0, .bool false), (1, .pointer (some ⟨g9, 0, none⟩)), (2, .pointer (some ⟨g34, 0, none⟩)), (3, .pointer (some ⟨g69, 0, none⟩)), (4, .slice rac1 bsc1.length rcc1), (5, .int .i64 ec1)]) ⟨rfl, rfl, rfl, rfl, rfl, rfl, trivial⟩ ?_)
 refine WE.next (WC.seq ?_)
 obtain ⟨rfl, hbl, hb0, hb1⟩ := wk_facts hPc1
 refine WC.region ?_
 refine WL.val (.agg #[.int .i64 ((-1)), .slice none 0 0]) rfl rfl rfl (fun za zC zh zk => build_32_0 rfl (zh.ev rfl) zk) ?_
 refine WL.val (.agg #[.int .i64 ((-1)), .slice none 0 0]) rfl rfl rfl (fun za zC zh zk => build_32_0 rfl (zh.ev rfl) zk) ?_
 refine WL.step (post := NewRow w101 32 #[.int .i64 ((-1)), .slice none 0 0] 1) rfl rfl rfl (fun za zC zh zk => row_30_1 rfl (zh.ev rfl) (zk _ _ (newRow _ _ _ _))) ?_
 rintro _ w102 ⟨g103, rfl, hg104, hB105, hb106, hz107⟩
 have hl108 : g2 < g103 := by have z1 := hB89.lt; have z2 := (hb100).size; omega
 have hl109 : g9 < g103 := by have z1 := hB91.lt; have z2 := (hb100).size; omega
 have hl110 : g25 < g103 := by have z1 := hB93.lt; have z2 := (hb100).size; omega
 have hl111 : g34 < g103 := by have z1 := hB95.lt; have z2 := (hb100).size; omega
 have hl112 : g58 < g103 := by have z1 := hB97.lt; have z2 := (hb100).size; omega
 have hl113 : g69 < g103 := by have z1 := hB83.lt; have z2 := (hb100).size; omega
 have hb114 : Below w.heap.size w w101 := (bstep hb86 hb100)
 have hl115 : w.heap.size ≤ g103 := by have z2 := (hb114).size; omega
 refine WL.val (.agg #[.int .i64 2, .slice ((some ⟨g103, 0, none⟩)) 1 1]) rfl rfl rfl (fun za zC zh zk => build_32_0_1 rfl (zh.ev rfl) (zh.ev rfl) zk) ?_
 have hT116 : IsT w102 wkX (.agg #[.int .i64 ((-1)), .slice none 0 0]) := (isT_lf (by decide))
 have hT117 : IsT w102 wkG (.agg #[.int .i64 2, .slice ((some ⟨g103, 0, none⟩)) 1 1]) := (isT_mk (by unfold I64; decide) ⟨_, _, rfl, Nat.le_refl _, by unfold maxLen; decide, ⟨⟨_, 0, _, _, rfl, (hB105.cell _).trans rfl, (hB105.cell _).trans rfl, (isT_lf (by decide))⟩, trivial⟩⟩)
 refine WL.call rfl rfl rfl (fun za zh zC => wp_call (by kernel_rfl) rfl (hv2 (zh.ev rfl) (zh.ev rfl))) (pterms_any wkX wkG _ _ _ hT116 hT117) ?_
 rintro _ w119 ⟨⟨bsc2, rac2, rcc2, ec2, rfl, hPc2, hRc2, _⟩, hb118⟩
 refine WL.mv rfl rfl rfl rfl rfl ?_
 refine WL.val (.slice rac2 bsc2.length rcc2) rfl rfl rfl (fun za zC zh zk => ext2_0 rfl (zh.ev rfl) zk) ?_
 refine WL.val (.int .i64 ec2) rfl rfl rfl (fun za zC zh zk => ext2_1 rfl (zh.ev rfl) zk) ?_
 refine WL.asg rfl rfl rfl rfl rfl (WL.asg rfl rfl rfl rfl rfl (WL.nil (WE.next (WC.seq ?_))))
 obtain rfl := wk_none hPc2
 have hb122 : Below w81.heap.size w81 w119 := (bstep (bstep hb100 hb106) hb118)
 have hB121 := hB93.below hb122
 have hT120 : IsT w119 wkF (.agg #[.int .i64 3, .slice ((some ⟨g25, 0, none⟩)) 2 2]) := (isT_mk (by unfold I64; decide) ⟨_, _, rfl, Nat.le_refl _, by unfold maxLen; decide, ⟨⟨_, 0, _, _, rfl, (hB121.cell _).trans rfl, (hB121.cell _).trans rfl, (isT_lf (by decide))⟩, ⟨⟨_, 0, _, _, rfl, (hB121.cell _).trans rfl, (hB121.cell _).trans rfl, (isT_lf (by decide))⟩, trivial⟩⟩⟩)
 have hB124 := hB97.below hb122
 have hB125 := hB89.below hb122
 have hT123 : IsT w119 wkH (.agg #[.int .i64 3, .slice ((some ⟨g58, 0, none⟩)) 2 2]) := (isT_mk (by unfold I64; decide) ⟨_, _, rfl, Nat.le_refl _, by unfold maxLen; decide, ⟨⟨_, 0, _, _, rfl, (hB124.cell _).trans rfl, (hB124.cell _).trans rfl, (isT_mk (by unfold I64; decide) ⟨_, _, rfl, Nat.le_refl _, by unfold maxLen; decide, ⟨⟨_, 0, _, _, rfl, (hB125.cell _).trans rfl, (hB125.cell _).trans rfl, (isT_lf (by decide))⟩, trivial⟩⟩)⟩, ⟨⟨_, 0, _, _, rfl, (hB124.cell _).trans rfl, (hB124.cell _).trans rfl, (isT_lf (by decide))⟩, trivial⟩⟩⟩)
 obtain ⟨b126, o127, A128, C129, ha130, hc131⟩ := InRow.openB hRc1
 have hb132 : Below w101.heap.size w101 w119 := (bstep hb106 hb118)
 have hB133 := hB95.below hb122
 have hB134 := hB83.below hb122
 refine WC.opt [(true, .val (.int .i64 0)), (true, .val (.bool (((0 : Int) == (0 : Int))))), (true, .val (.bool (((0 : Int) == (0 : Int))))), ((true && ((0 : Int) == (0 : Int))), .val (.slice rac1 bsc1.length rcc1)), ((true && ((0 : Int) == (0 : Int))), .val (.int .i64 (((bsc1.length : Nat) : Int)))), ((true && ((0 : Int) == (0 : Int))), .val (.bool (((((bsc1.length : Nat) : Int) : Int) == (2 : Int))))), (true, .val (.bool ((((0 : Int) == (0 : Int)) && ((((bsc1.length : Nat) : Int) : Int) == (2 : Int)))))), (true, .val (.bool ((((0 : Int) == (0 : Int)) && ((((bsc1.length : Nat) : Int) : Int) == (2 : Int)))))), ((true && (((0 : Int) == (0 : Int)) && ((((bsc1.length : Nat) : Int) : Int) == (2 : Int)))), .val (.slice rac1 bsc1.length rcc1)), ((true && (((0 : Int) == (0 : Int)) && ((((bsc1.length : Nat) : Int) : Int) == (2 : Int)))), .val (.pointer (some ⟨b126, o127 + 0 * 3, none⟩))), ((true && (((0 : Int) == (0 : Int)) && ((((bsc1.length : Nat) : Int) : Int) == (2 : Int)))), .val (.pointer (some ⟨b126, o127 + 0 * 3 + 1, none⟩))), ((true && (((0 : Int) == (0 : Int)) && ((((bsc1.length : Nat) : Int) : Int) == (2 : Int)))), .val (.pointer (some ⟨b126, o127 + 0 * 3 + 1, none⟩))), ((true && (((0 : Int) == (0 : Int)) && ((((bsc1.length : Nat) : Int) : Int) == (2 : Int)))), .val (.int .i64 ((dget bsc1 0).t.f))), ((true && (((0 : Int) == (0 : Int)) && ((((bsc1.length : Nat) : Int) : Int) == (2 : Int)))), .val (.bool ((((dget bsc1 0).t.f : Int) == (2 : Int))))), (true, .val (.bool (((((0 : Int) == (0 : Int)) && ((((bsc1.length : Nat) : Int) : Int) == (2 : Int))) && (((dget bsc1 0).t.f : Int) == (2 : Int)))))), (true, .val (.bool (((((0 : Int) == (0 : Int)) && ((((bsc1.length : Nat) : Int) : Int) == (2 : Int))) && (((dget bsc1 0).t.f : Int) == (2 : Int)))))), ((true && ((((0 : Int) == (0 : Int)) && ((((bsc1.length : Nat) : Int) : Int) == (2 : Int))) && (((dget bsc1 0).t.f : Int) == (2 : Int)))), .val (.slice rac1 bsc1.length rcc1)), ((true && ((((0 : Int) == (0 : Int)) && ((((bsc1.length : Nat) : Int) : Int) == (2 : Int))) && (((dget bsc1 0).t.f : Int) == (2 : Int)))), .val (.pointer (some ⟨b126, o127 + 1 * 3, none⟩))), ((true && ((((0 : Int) == (0 : Int)) && ((((bsc1.length : Nat) : Int) : Int) == (2 : Int))) && (((dget bsc1 0).t.f : Int) == (2 : Int)))), .val (.pointer (some ⟨b126, o127 + 1 * 3 + 1, none⟩))), ((true && ((((0 : Int) == (0 : Int)) && ((((bsc1.length : Nat) : Int) : Int) == (2 : Int))) && (((dget bsc1 0).t.f : Int) == (2 : Int)))), .val (.pointer (some ⟨b126, o127 + 1 * 3 + 1, none⟩))), ((true && ((((0 : Int) == (0 : Int)) && ((((bsc1.length : Nat) : Int) : Int) == (2 : Int))) && (((dget bsc1 0).t.f : Int) == (2 : Int)))), .val (.int .i64 ((dget bsc1 1).t.f))), ((true && ((((0 : Int) == (0 : Int)) && ((((bsc1.length : Nat) : Int) : Int) == (2 : Int))) && (((dget bsc1 0).t.f : Int) == (2 : Int)))), .val (.bool ((((dget bsc1 1).t.f : Int) == (1 : Int))))), (true, .val (.bool ((((((0 : Int) == (0 : Int)) && ((((bsc1.length : Nat) : Int) : Int) == (2 : Int))) && (((dget bsc1 0).t.f : Int) == (2 : Int))) && (((dget bsc1 1).t.f : Int) == (1 : Int)))))), (true, .val (.bool ((((((0 : Int) == (0 : Int)) && ((((bsc1.length : Nat) : Int) : Int) == (2 : Int))) && (((dget bsc1 0).t.f : Int) == (2 : Int))) && (((dget bsc1 1).t.f : Int) == (1 : Int)))))), ((true && (((((0 : Int) == (0 : Int)) && ((((bsc1.length : Nat) : Int) : Int) == (2 : Int))) && (((dget bsc1 0).t.f : Int) == (2 : Int))) && (((dget bsc1 1).t.f : Int) == (1 : Int)))), .val (.int .i64 4)), ((true && (((((0 : Int) == (0 : Int)) && ((((bsc1.length : Nat) : Int) : Int) == (2 : Int))) && (((dget bsc1 0).t.f : Int) == (2 : Int))) && (((dget bsc1 1).t.f : Int) == (1 : Int)))), .val (.bool (((4 : Int) == (4 : Int))))), (true, .val (.bool (((((((0 : Int) == (0 : Int)) && ((((bsc1.length : Nat) : Int) : Int) == (2 : Int))) && (((dget bsc1 0).t.f : Int) == (2 : Int))) && (((dget bsc1 1).t.f : Int) == (1 : Int))) && ((4 : Int) == (4 : Int)))))), (true, .val (.bool (((((((0 : Int) == (0 : Int)) && ((((bsc1.length : Nat) : Int) : Int) == (2 : Int))) && (((dget bsc1 0).t.f : Int) == (2 : Int))) && (((dget bsc1 1).t.f : Int) == (1 : Int))) && ((4 : Int) == (4 : Int)))))), ((true && ((((((0 : Int) == (0 : Int)) && ((((bsc1.length : Nat) : Int) : Int) == (2 : Int))) && (((dget bsc1 0).t.f : Int) == (2 : Int))) && (((dget bsc1 1).t.f : Int) == (1 : Int))) && ((4 : Int) == (4 : Int)))), .val (.agg #[.int .i64 3, .slice ((some ⟨g25, 0, none⟩)) 2 2])), ((true && ((((((0 : Int) == (0 : Int)) && ((((bsc1.length : Nat) : Int) : Int) == (2 : Int))) && (((dget bsc1 0).t.f : Int) == (2 : Int))) && (((dget bsc1 1).t.f : Int) == (1 : Int))) && ((4 : Int) == (4 : Int)))), .val (.agg #[.int .i64 3, .slice ((some ⟨g58, 0, none⟩)) 2 2])), ((true && ((((((0 : Int) == (0 : Int)) && ((((bsc1.length : Nat) : Int) : Int) == (2 : Int))) && (((dget bsc1 0).t.f : Int) == (2 : Int))) && (((dget bsc1 1).t.f : Int) == (1 : Int))) && ((4 : Int) == (4 : Int)))), .val (.bool true)), (true, .val (.bool ((((((((0 : Int) == (0 : Int)) && ((((bsc1.length : Nat) : Int) : Int) == (2 : Int))) && (((dget bsc1 0).t.f : Int) == (2 : Int))) && (((dget bsc1 1).t.f : Int) == (1 : Int))) && ((4 : Int) == (4 : Int))) && true)))), (true, .val (.bool ((((((((0 : Int) == (0 : Int)) && ((((bsc1.length : Nat) : Int) : Int) == (2 : Int))) && (((dget bsc1 0).t.f : Int) == (2 : Int))) && (((dget bsc1 1).t.f : Int) == (1 : Int))) && ((4 : Int) == (4 : Int))) && true))))] [(1, .pointer (some ⟨g9, 0, none⟩)), (2, .pointer (some ⟨g34, 0, none⟩)), (3, .pointer (some ⟨g69, 0, none⟩)), (4, .slice rac1 bsc1.length rcc1), (5, .int .i64 0), (7, .int .i64 4)] ⟨rfl, rfl, rfl, rfl, rfl, rfl, trivial⟩ (by kernel_rfl) (by kernel_rfl) (by kernel_rfl) ?_ ?_
 ·refine ⟨⟨true, .none rfl, fun h w => optUndef h, fun zβ za zw zc => ?_⟩, ?_⟩
  ·exact wp_move rfl (zc.kn.ev rfl) ⟨_, rfl, Below.refl _ _, optDef zβ rfl⟩
  refine ⟨⟨true, .none rfl, fun h w => optUndef h, fun zβ za zw zc => ?_⟩, ?_⟩
  ·exact eql_25 rfl ((evt za 33).trans (optVal (zc.dep 0 33 (by kernel_rfl)) rfl rfl)) (zc.kn.ev rfl) ⟨_, rfl, Below.refl _ _, optDef zβ rfl⟩
  refine ⟨⟨true, .none rfl, fun h w => optUndef h, fun zβ za zw zc => ?_⟩, ?_⟩
  ·exact wp_move rfl ((evt za 34).trans (optVal (zc.dep 1 34 (by kernel_rfl)) rfl rfl)) ⟨_, rfl, Below.refl _ _, optDef zβ rfl⟩
  refine ⟨⟨_, .yes (c := ((0 : Int) == (0 : Int))) (d := true) rfl (fun v w h => h), fun h w => optUndef h, fun zβ za zw zc => ?_⟩, ?_⟩
  ·exact wp_move rfl (zc.kn.ev rfl) ⟨_, rfl, Below.refl _ _, optDef zβ rfl⟩
  refine ⟨⟨_, .yes (c := ((0 : Int) == (0 : Int))) (d := true) rfl (fun v w h => h), fun h w => optUndef h, fun zβ za zw zc => ?_⟩, ?_⟩
  ·exact len_24 rfl ((evt za 36).trans (optVal (zc.dep 3 36 (by kernel_rfl)) rfl zβ)) ⟨_, rfl, Below.refl _ _, optDef zβ rfl⟩
  refine ⟨⟨_, .yes (c := ((0 : Int) == (0 : Int))) (d := true) rfl (fun v w h => h), fun h w => optUndef h, fun zβ za zw zc => ?_⟩, ?_⟩
  ·exact eql_3 rfl ((evt za 37).trans (optVal (zc.dep 4 37 (by kernel_rfl)) rfl zβ)) (zc.kn.ev rfl) ⟨_, rfl, Below.refl _ _, optDef zβ rfl⟩
  refine ⟨⟨true, .none rfl, fun h w => optUndef h, fun zβ za zw zc => ?_⟩, ?_⟩
  ·exact wp_and rfl ((evt za 35).trans (optVal (zc.dep 2 35 (by kernel_rfl)) rfl rfl)) (fun hp => ((evt za 38).trans (optVal (zc.dep 5 38 (by kernel_rfl)) rfl (bMk zβ hp)))) ⟨_, rfl, Below.refl _ _, optDef zβ rfl⟩
  refine ⟨⟨true, .none rfl, fun h w => optUndef h, fun zβ za zw zc => ?_⟩, ?_⟩
  ·exact wp_move rfl ((evt za 39).trans (optVal (zc.dep 6 39 (by kernel_rfl)) rfl rfl)) ⟨_, rfl, Below.refl _ _, optDef zβ rfl⟩
  refine ⟨⟨_, .yes (c := (((0 : Int) == (0 : Int)) && ((((bsc1.length : Nat) : Int) : Int) == (2 : Int)))) (d := true) rfl (fun v w h => h), fun h w => optUndef h, fun zβ za zw zc => ?_⟩, ?_⟩
  ·exact wp_move rfl (zc.kn.ev rfl) ⟨_, rfl, Below.refl _ _, optDef zβ rfl⟩
  refine ⟨⟨_, .yes (c := (((0 : Int) == (0 : Int)) && ((((bsc1.length : Nat) : Int) : Int) == (2 : Int)))) (d := true) rfl (fun v w h => h), fun h w => optUndef h, fun zβ za zw zc => ?_⟩, ?_⟩
  ·exact ix_24 (k := 0) rfl ((evt za 41).trans (optVal (zc.dep 8 41 (by kernel_rfl)) rfl zβ)) (ha130 0 (by first | omega | (have zz := zβ; simp only [Bool.and_eq_true, Bool.or_eq_true, Bool.true_and, Bool.not_eq_true', Bool.or_eq_false_iff, Bool.and_eq_false_iff, beq_eq_false_iff_ne, ne_eq, beq_iff_eq, decide_eq_true_eq, decide_eq_false_iff_not, bne_iff_ne, bne_eq_false_iff_eq] at zz; omega))) (zc.kn.ev rfl) (by first | omega | (have zz := zβ; simp only [Bool.and_eq_true, Bool.or_eq_true, Bool.true_and, Bool.not_eq_true', Bool.or_eq_false_iff, Bool.and_eq_false_iff, beq_eq_false_iff_ne, ne_eq, beq_iff_eq, decide_eq_true_eq, decide_eq_false_iff_not, bne_iff_ne, bne_eq_false_iff_eq] at zz; omega)) ⟨_, rfl, Below.refl _ _, optDef zβ rfl⟩
  refine ⟨⟨_, .yes (c := (((0 : Int) == (0 : Int)) && ((((bsc1.length : Nat) : Int) : Int) == (2 : Int)))) (d := true) rfl (fun v w h => h), fun h w => optUndef h, fun zβ za zw zc => ?_⟩, ?_⟩
  ·exact fld_41_1 rfl ((evt za 42).trans (optVal (zc.dep 9 42 (by kernel_rfl)) rfl zβ)) ⟨_, rfl, Below.refl _ _, optDef zβ rfl⟩
  refine ⟨⟨_, .yes (c := (((0 : Int) == (0 : Int)) && ((((bsc1.length : Nat) : Int) : Int) == (2 : Int)))) (d := true) rfl (fun v w h => h), fun h w => optUndef h, fun zβ za zw zc => ?_⟩, ?_⟩
  ·exact fld_32_0 rfl ((evt za 43).trans (optVal (zc.dep 10 43 (by kernel_rfl)) rfl zβ)) ⟨_, rfl, Below.refl _ _, optDef zβ rfl⟩
  refine ⟨⟨_, .yes (c := (((0 : Int) == (0 : Int)) && ((((bsc1.length : Nat) : Int) : Int) == (2 : Int)))) (d := true) rfl (fun v w h => h), fun h w => optUndef h, fun zβ za zw zc => ?_⟩, ?_⟩
  ·exact ld_3 rfl ((evt za 44).trans (optVal (zc.dep 11 44 (by kernel_rfl)) rfl zβ)) (bkeeps (bstep hb132 zc.below) _ _ (hc131 0 (by first | omega | (have zz := zβ; simp only [Bool.and_eq_true, Bool.or_eq_true, Bool.true_and, Bool.not_eq_true', Bool.or_eq_false_iff, Bool.and_eq_false_iff, beq_eq_false_iff_ne, ne_eq, beq_iff_eq, decide_eq_true_eq, decide_eq_false_iff_not, bne_iff_ne, bne_eq_false_iff_eq] at zz; omega))).2.1) ⟨_, rfl, Below.refl _ _, optDef zβ rfl⟩
  refine ⟨⟨_, .yes (c := (((0 : Int) == (0 : Int)) && ((((bsc1.length : Nat) : Int) : Int) == (2 : Int)))) (d := true) rfl (fun v w h => h), fun h w => optUndef h, fun zβ za zw zc => ?_⟩, ?_⟩
  ·exact eql_3 rfl ((evt za 45).trans (optVal (zc.dep 12 45 (by kernel_rfl)) rfl zβ)) (zc.kn.ev rfl) ⟨_, rfl, Below.refl _ _, optDef zβ rfl⟩
  refine ⟨⟨true, .none rfl, fun h w => optUndef h, fun zβ za zw zc => ?_⟩, ?_⟩
  ·exact wp_and rfl ((evt za 40).trans (optVal (zc.dep 7 40 (by kernel_rfl)) rfl rfl)) (fun hp => ((evt za 46).trans (optVal (zc.dep 13 46 (by kernel_rfl)) rfl (bMk zβ hp)))) ⟨_, rfl, Below.refl _ _, optDef zβ rfl⟩
  refine ⟨⟨true, .none rfl, fun h w => optUndef h, fun zβ za zw zc => ?_⟩, ?_⟩
  ·exact wp_move rfl ((evt za 47).trans (optVal (zc.dep 14 47 (by kernel_rfl)) rfl rfl)) ⟨_, rfl, Below.refl _ _, optDef zβ rfl⟩
  refine ⟨⟨_, .yes (c := ((((0 : Int) == (0 : Int)) && ((((bsc1.length : Nat) : Int) : Int) == (2 : Int))) && (((dget bsc1 0).t.f : Int) == (2 : Int)))) (d := true) rfl (fun v w h => h), fun h w => optUndef h, fun zβ za zw zc => ?_⟩, ?_⟩
  ·exact wp_move rfl (zc.kn.ev rfl) ⟨_, rfl, Below.refl _ _, optDef zβ rfl⟩
  refine ⟨⟨_, .yes (c := ((((0 : Int) == (0 : Int)) && ((((bsc1.length : Nat) : Int) : Int) == (2 : Int))) && (((dget bsc1 0).t.f : Int) == (2 : Int)))) (d := true) rfl (fun v w h => h), fun h w => optUndef h, fun zβ za zw zc => ?_⟩, ?_⟩
  ·exact ix_24 (k := 1) rfl ((evt za 49).trans (optVal (zc.dep 16 49 (by kernel_rfl)) rfl zβ)) (ha130 1 (by first | omega | (have zz := zβ; simp only [Bool.and_eq_true, Bool.or_eq_true, Bool.true_and, Bool.not_eq_true', Bool.or_eq_false_iff, Bool.and_eq_false_iff, beq_eq_false_iff_ne, ne_eq, beq_iff_eq, decide_eq_true_eq, decide_eq_false_iff_not, bne_iff_ne, bne_eq_false_iff_eq] at zz; omega))) (zc.kn.ev rfl) (by first | omega | (have zz := zβ; simp only [Bool.and_eq_true, Bool.or_eq_true, Bool.true_and, Bool.not_eq_true', Bool.or_eq_false_iff, Bool.and_eq_false_iff, beq_eq_false_iff_ne, ne_eq, beq_iff_eq, decide_eq_true_eq, decide_eq_false_iff_not, bne_iff_ne, bne_eq_false_iff_eq] at zz; omega)) ⟨_, rfl, Below.refl _ _, optDef zβ rfl⟩
  refine ⟨⟨_, .yes (c := ((((0 : Int) == (0 : Int)) && ((((bsc1.length : Nat) : Int) : Int) == (2 : Int))) && (((dget bsc1 0).t.f : Int) == (2 : Int)))) (d := true) rfl (fun v w h => h), fun h w => optUndef h, fun zβ za zw zc => ?_⟩, ?_⟩
  ·exact fld_41_1 rfl ((evt za 50).trans (optVal (zc.dep 17 50 (by kernel_rfl)) rfl zβ)) ⟨_, rfl, Below.refl _ _, optDef zβ rfl⟩
  refine ⟨⟨_, .yes (c := ((((0 : Int) == (0 : Int)) && ((((bsc1.length : Nat) : Int) : Int) == (2 : Int))) && (((dget bsc1 0).t.f : Int) == (2 : Int)))) (d := true) rfl (fun v w h => h), fun h w => optUndef h, fun zβ za zw zc => ?_⟩, ?_⟩
  ·exact fld_32_0 rfl ((evt za 51).trans (optVal (zc.dep 18 51 (by kernel_rfl)) rfl zβ)) ⟨_, rfl, Below.refl _ _, optDef zβ rfl⟩
  refine ⟨⟨_, .yes (c := ((((0 : Int) == (0 : Int)) && ((((bsc1.length : Nat) : Int) : Int) == (2 : Int))) && (((dget bsc1 0).t.f : Int) == (2 : Int)))) (d := true) rfl (fun v w h => h), fun h w => optUndef h, fun zβ za zw zc => ?_⟩, ?_⟩
  ·exact ld_3 rfl ((evt za 52).trans (optVal (zc.dep 19 52 (by kernel_rfl)) rfl zβ)) (bkeeps (bstep hb132 zc.below) _ _ (hc131 1 (by first | omega | (have zz := zβ; simp only [Bool.and_eq_true, Bool.or_eq_true, Bool.true_and, Bool.not_eq_true', Bool.or_eq_false_iff, Bool.and_eq_false_iff, beq_eq_false_iff_ne, ne_eq, beq_iff_eq, decide_eq_true_eq, decide_eq_false_iff_not, bne_iff_ne, bne_eq_false_iff_eq] at zz; omega))).2.1) ⟨_, rfl, Below.refl _ _, optDef zβ rfl⟩
  refine ⟨⟨_, .yes (c := ((((0 : Int) == (0 : Int)) && ((((bsc1.length : Nat) : Int) : Int) == (2 : Int))) && (((dget bsc1 0).t.f : Int) == (2 : Int)))) (d := true) rfl (fun v w h => h), fun h w => optUndef h, fun zβ za zw zc => ?_⟩, ?_⟩
  ·exact eql_3 rfl ((evt za 53).trans (optVal (zc.dep 20 53 (by kernel_rfl)) rfl zβ)) (zc.kn.ev rfl) ⟨_, rfl, Below.refl _ _, optDef zβ rfl⟩
  refine ⟨⟨true, .none rfl, fun h w => optUndef h, fun zβ za zw zc => ?_⟩, ?_⟩
  ·exact wp_and rfl ((evt za 48).trans (optVal (zc.dep 15 48 (by kernel_rfl)) rfl rfl)) (fun hp => ((evt za 54).trans (optVal (zc.dep 21 54 (by kernel_rfl)) rfl (bMk zβ hp)))) ⟨_, rfl, Below.refl _ _, optDef zβ rfl⟩
  refine ⟨⟨true, .none rfl, fun h w => optUndef h, fun zβ za zw zc => ?_⟩, ?_⟩
  ·exact wp_move rfl ((evt za 55).trans (optVal (zc.dep 22 55 (by kernel_rfl)) rfl rfl)) ⟨_, rfl, Below.refl _ _, optDef zβ rfl⟩
  refine ⟨⟨_, .yes (c := (((((0 : Int) == (0 : Int)) && ((((bsc1.length : Nat) : Int) : Int) == (2 : Int))) && (((dget bsc1 0).t.f : Int) == (2 : Int))) && (((dget bsc1 1).t.f : Int) == (1 : Int)))) (d := true) rfl (fun v w h => h), fun h w => optUndef h, fun zβ za zw zc => ?_⟩, ?_⟩
  ·exact wp_move rfl (zc.kn.ev rfl) ⟨_, rfl, Below.refl _ _, optDef zβ rfl⟩
  refine ⟨⟨_, .yes (c := (((((0 : Int) == (0 : Int)) && ((((bsc1.length : Nat) : Int) : Int) == (2 : Int))) && (((dget bsc1 0).t.f : Int) == (2 : Int))) && (((dget bsc1 1).t.f : Int) == (1 : Int)))) (d := true) rfl (fun v w h => h), fun h w => optUndef h, fun zβ za zw zc => ?_⟩, ?_⟩
  ·exact eql_25 rfl ((evt za 57).trans (optVal (zc.dep 24 57 (by kernel_rfl)) rfl zβ)) (zc.kn.ev rfl) ⟨_, rfl, Below.refl _ _, optDef zβ rfl⟩
  refine ⟨⟨true, .none rfl, fun h w => optUndef h, fun zβ za zw zc => ?_⟩, ?_⟩
  ·exact wp_and rfl ((evt za 56).trans (optVal (zc.dep 23 56 (by kernel_rfl)) rfl rfl)) (fun hp => ((evt za 58).trans (optVal (zc.dep 25 58 (by kernel_rfl)) rfl (bMk zβ hp)))) ⟨_, rfl, Below.refl _ _, optDef zβ rfl⟩
  refine ⟨⟨true, .none rfl, fun h w => optUndef h, fun zβ za zw zc => ?_⟩, ?_⟩
  ·exact wp_move rfl ((evt za 59).trans (optVal (zc.dep 26 59 (by kernel_rfl)) rfl rfl)) ⟨_, rfl, Below.refl _ _, optDef zβ rfl⟩
  refine ⟨⟨_, .yes (c := ((((((0 : Int) == (0 : Int)) && ((((bsc1.length : Nat) : Int) : Int) == (2 : Int))) && (((dget bsc1 0).t.f : Int) == (2 : Int))) && (((dget bsc1 1).t.f : Int) == (1 : Int))) && ((4 : Int) == (4 : Int)))) (d := true) rfl (fun v w h => h), fun h w => optUndef h, fun zβ za zw zc => ?_⟩, ?_⟩
  ·exact ld_32 rfl (zc.kn.ev rfl) (bkeeps zc.below _ _ ((hB133.cell 0).trans rfl)) (bkeeps zc.below _ _ ((hB133.cell 1).trans rfl)) ⟨_, rfl, Below.refl _ _, optDef zβ rfl⟩
  refine ⟨⟨_, .yes (c := ((((((0 : Int) == (0 : Int)) && ((((bsc1.length : Nat) : Int) : Int) == (2 : Int))) && (((dget bsc1 0).t.f : Int) == (2 : Int))) && (((dget bsc1 1).t.f : Int) == (1 : Int))) && ((4 : Int) == (4 : Int)))) (d := true) rfl (fun v w h => h), fun h w => optUndef h, fun zβ za zw zc => ?_⟩, ?_⟩
  ·exact ld_32 rfl (zc.kn.ev rfl) (bkeeps zc.below _ _ ((hB134.cell 0).trans rfl)) (bkeeps zc.below _ _ ((hB134.cell 1).trans rfl)) ⟨_, rfl, Below.refl _ _, optDef zβ rfl⟩
  refine ⟨⟨_, .yes (c := ((((((0 : Int) == (0 : Int)) && ((((bsc1.length : Nat) : Int) : Int) == (2 : Int))) && (((dget bsc1 0).t.f : Int) == (2 : Int))) && (((dget bsc1 1).t.f : Int) == (1 : Int))) && ((4 : Int) == (4 : Int)))) (d := true) rfl (fun v w h => h), fun h w => optUndef h, fun zβ za zw zc => ?_⟩, ?_⟩
  ·exact wp_call (by kernel_rfl) rfl (hv2 ((evt za 61).trans (optVal (zc.dep 28 61 (by kernel_rfl)) rfl zβ)) ((evt za 62).trans (optVal (zc.dep 29 62 (by kernel_rfl)) rfl zβ))) (can_wk (hT120.below zc.below) (hT123.below zc.below)) (fun v w' h => ⟨v, rfl, h.2, optDef zβ h.1⟩)
  refine ⟨⟨true, .none rfl, fun h w => optUndef h, fun zβ za zw zc => ?_⟩, ?_⟩
  ·exact wp_and rfl ((evt za 60).trans (optVal (zc.dep 27 60 (by kernel_rfl)) rfl rfl)) (fun hp => ((evt za 63).trans (optVal (zc.dep 30 63 (by kernel_rfl)) rfl (bMk zβ hp)))) ⟨_, rfl, Below.refl _ _, optDef zβ rfl⟩
  refine ⟨⟨true, .none rfl, fun h w => optUndef h, fun zβ za zw zc => ?_⟩, ?_⟩
  ·exact wp_assign rfl ((evt za 64).trans (optVal (zc.dep 31 64 (by kernel_rfl)) rfl rfl)) ⟨_, rfl, Below.refl _ _, optDef zβ rfl⟩
  exact trivial
 ·intro za w135 zh hb136 zu
  have zh := zh.cons (d := 0) (v := .bool ((((((((0 : Int) == (0 : Int)) && ((((bsc1.length : Nat) : Int) : Int) == (2 : Int))) && (((dget bsc1 0).t.f : Int) == (2 : Int))) && (((dget bsc1 1).t.f : Int) == (1 : Int))) && ((4 : Int) == (4 : Int))) && true))) (optVal (zu 32 0 (by kernel_rfl)) rfl rfl)
  clear zu
  refine WE.go zh ?_
  refine WE.next (WC.ret (WE.ret1 rfl rfl ?_))
  have hb137 : Below w.heap.size w w135 := (bstep (bstep hb86 hb122) hb136)
  exact ⟨_, rfl, by simp [hbl, hb0, hb1], hb137⟩
end Go.Proofs.Ythhgidliopohcaa

namespace Go.Proofs.Ythhgidliopohcaa
open Go.RowKit Go
set_option linter.unusedVariables false
section
variable {X : Type} {w0 w w' : World} {F : X → Nat → Value} {Px : X → World → Prop} {vs : List (Option Value)}
/-- Nothing has been told yet; or there is an outcome, and what has been handed on is of it. -/
structure CXS (w0 : World) (F : X → Nat → Value) (Px : X → World → Prop) (vs : List (Option Value)) (w : World) : Prop where
 below : Below w0.heap.size w0 w
 st : (∀ (p : Nat) (v : Value), vs[p]? ≠ some (some v)) ∨ ∃ x, Px x w ∧ ∀ (p : Nat) (v : Value), vs[p]? = some (some v) → v = F x p
theorem CXS.step (k1 : ∀ x w w', Below w.heap.size w w' → Px x w → Px x w') (h : CXS w0 F Px vs w) (hb : Below w.heap.size w w') : CXS w0 F Px vs w' :=
 ⟨bstep h.below hb, h.st.imp id (fun ⟨x, h1, h2⟩ => ⟨x, k1 _ _ _ hb h1, h2⟩)⟩
theorem CXS.call (h : CXS w0 F Px vs w) (hn : ∀ (p : Nat) (v : Value), vs[p]? ≠ some (some v)) {x : X} (hb : Below w.heap.size w w') (hP : Px x w') : CXS w0 F Px (vs.set 0 (some (F x 0))) w' :=
 ⟨bstep h.below hb, .inr ⟨x, hP, fun p v e => by
  cases p with
  | zero =>
   cases vs with
   | nil => simp at e
   | cons y r => simp only [List.set_cons_zero, List.getElem?_cons_zero, Option.some.injEq] at e; exact e.symm
  | succ p => rw [List.getElem?_set_ne (by omega)] at e; exact absurd e (hn _ _)⟩⟩
theorem CXS.pass (h : CXS w0 F Px vs w) {q p : Nat} {v : Value} (hq : vs[q]? = some (some v)) : ∃ x, v = F x q ∧ CXS w0 F Px (vs.set p (some (F x p))) w := by
 rcases h.st with h1 | ⟨x, h1, h2⟩
 ·exact absurd hq (h1 q v)
 ·refine ⟨x, h2 _ _ hq, h.below, .inr ⟨x, h1, fun p' v' e => ?_⟩⟩
  by_cases c : p' = p
  ·subst c
   rw [List.getElem?_set] at e
   rw [if_pos rfl] at e
   split at e
   ·simp only [Option.some.injEq] at e; exact e.symm
   ·cases e
  ·rw [List.getElem?_set_ne (Ne.symm c)] at e
   exact h2 _ _ e
end
section
variable {P : Program} {ops : Array Oper} {X : Type} {F : X → Nat → Value} {Px : X → World → Prop}
structure CtxCX (ops : Array Oper) (l : List (Bool × Value)) (chain : List Nat) (n : Fr) (K : Known) (w0 : World) (o : Oper) (a : Act) (w : World) : Prop where
 below : Below w0.heap.size w0 w
 kn : Kn n K a
 dep : ∀ j d, depB ops o j d = true → chain.contains j = false → valR1 l j (a.tmps.getD d undef)
/-- Each operation: one that yields what is listed; the call; one that hands on. -/
def SoundCX (P : Program) (ops : Array Oper) (Q : Exit → Act → World → Prop) (l : List (Bool × Value)) (f : Fr) (K : Known) (w0 : World) (F : X → Nat → Value) (Px : X → World → Prop) (chain : List Nat) : Nat → List Oper → Prop
 | _, [] => True
 | i, o :: r => ((chain.contains i = false ∧ o.guard = none ∧
    (∀ a w, CtxCX ops l chain f K w0 o a w → o.wp P a w (fun a' w' => ∃ v, a' = Act.put a o.dst v ∧ Below w.heap.size w w' ∧ valR1 l i v) Q)) ∨
   (chain[0]? = some i ∧ o.guard = none ∧ (chain.tail.all fun c => (ancL ops c).contains i) = true ∧ ∀ a w, CtxCX ops l chain f K w0 o a w → o.wp P a w (fun a' w' => ∃ x, a' = Act.put a o.dst (F x 0) ∧ Below w.heap.size w w' ∧ Px x w') Q) ∨
   (∃ (p q c d : Nat), chain[p]? = some i ∧ o.guard = none ∧ chain[q]? = some c ∧ depB ops o c d = true ∧ ∀ (a : Act) (w : World) x, a.tmps.getD d undef = F x q → o.wp P a w (fun a' w' => a' = Act.put a o.dst (F x p) ∧ w' = w) Q)) ∧ SoundCX P ops Q l f K w0 F Px chain (i + 1) r
theorem SoundCX.gen {w0 : World} {chain : List Nat} (k1 : ∀ x w w', Below w.heap.size w w' → Px x w → Px x w') {Q : Exit → Act → World → Prop} {l : List (Bool × Value)} {f : Fr} {K : Known} : ∀ {lo : List Oper} {i : Nat}, SoundCX P ops Q l f K w0 F Px chain i lo →
  SoundFromG P ops Q chain (fun i v _ => valR1 l i v) (fun _ _ => True) (CXS w0 F Px) f K i lo
 | [], _, _ => trivial
 | o :: r, i, ⟨h, hr⟩ => by
  refine ⟨?_, hr.gen k1⟩
  have mk : ∀ {a : Act} {w : World} {vs : List (Option Value)} (_ : CtxG ops chain (fun i v _ => valR1 l i v) (CXS w0 F Px) f K i o a w vs), CtxCX ops l chain f K w0 o a w := fun C => ⟨C.now.below, C.kn, C.dep⟩
  rcases h with ⟨h1, h2, h3⟩ | ⟨h0, h1, hc, h2⟩ | ⟨p, q, c, d, h0, h1, hq, hd, h2⟩
  ·refine .inl ⟨h1, true, .none h2, fun g b hb => by (rw [h2] at hb; cases hb), fun e => (by cases e), fun _ a w vs C => ?_⟩
   refine Oper.wpIn_mono ?_ (wpIn_of (h3 a w (mk C)) (by rintro a' w' ⟨v, rfl, _⟩; exact put_defers _ _ _))
   rintro a' w' ⟨v, rfl, hb, hv⟩
   exact ⟨v, rfl, trivial, CXS.step k1 C.now hb, hv⟩
  ·refine .inr ⟨0, h0, h1, fun a w vs C hn => ?_⟩
   have hnn : ∀ (p : Nat) (v : Value), vs[p]? ≠ some (some v) := fun p v e => by
    have hp : p < chain.length := by rw [← C.len]; exact (List.getElem?_eq_some_iff.1 e).1
    cases p with
    | zero => rw [hn] at e; cases e
    | succ p =>
     have e2 : chain[p + 1]? = some chain[p + 1] := List.getElem?_eq_some_iff.2 ⟨hp, rfl⟩
     have hm : chain[p + 1] ∈ chain.tail := by
      have e3 : chain.tail[p]? = some chain[p + 1] := by rw [List.getElem?_tail]; exact e2
      exact List.mem_of_getElem? e3
     rw [C.mostT (p + 1) _ e2 (List.all_eq_true.1 hc _ hm)] at e; cases e
   refine Oper.wpIn_mono ?_ (wpIn_of (h2 a w (mk C)) (by rintro a' w' ⟨v, rfl, _⟩; exact put_defers _ _ _))
   rintro a' w' ⟨x, rfl, hb, hP⟩
   exact ⟨_, rfl, trivial, CXS.call C.now hnn hb hP⟩
  ·refine .inr ⟨p, h0, h1, fun a w vs C hn => ?_⟩
   obtain ⟨x, e1, h3⟩ := CXS.pass (p := p) C.now (C.link q c d hq hd)
   refine Oper.wpIn_mono ?_ (wpIn_of (h2 a w x e1) (by rintro a' w' ⟨rfl, _⟩; exact put_defers _ _ _))
   rintro a' w' ⟨rfl, rfl⟩
   exact ⟨_, rfl, trivial, h3⟩
theorem WC.callx {rid : Nat} {dr : Bool} {Q : Exit → Act → World → Prop} {f : Fr} {K : Known} {w : World} (F : X → Nat → Value) (Px : X → World → Prop) (k1 : ∀ x w w', Below w.heap.size w w' → Px x w → Px x w') (l : List (Bool × Value)) (K0 : Known) (chain : List Nat) (h0 : 0 < chain.length)
  (hd : chain.Nodup) (hin : (chain.all fun c => Nat.blt c ops.size) = true)
  (hs : subK K0 K) (hclear : clearB ops K0 = true) (hm : P.follows .mixedOrders = true) (hB : opsB ops f.n = true)
  (h : SoundCX P ops Q l f K0 w F Px chain 0 ops.toList)
  (hQ : ∀ (a : Act) (w' : World) (x : X), Kn f K0 a → Below w.heap.size w w' → Px x w' → (∀ (p c d : Nat), chain[p]? = some c → (ops[c]?).bind (·.dst) = some d → a.tmps.getD d undef = F x p) → (∀ (i d : Nat), (ops[i]?).bind (·.dst) = some d → chain.contains i = false → valR1 l i (a.tmps.getD d undef)) → Q .normal a w') :
  WC P f K w (.region rid ops dr) Q := by
 refine WC.gen chain (fun i v _ => valR1 l i v) (fun _ _ => True) (CXS w F Px) K0 hs hclear hm hB hd hin (fun _ _ _ _ h _ => h) ?_ (h.gen k1) (fun a w' vs hk hlen hall hG hu hl => ?_)
 ·have st : ∀ w' : World, Below w.heap.size w w' → CXS w F Px (List.replicate chain.length none) w' := fun w' hb => ⟨hb, .inl (fun p v e => by
   rw [List.getElem?_replicate] at e
   split at e <;> cases e)⟩
  cases dr with
  | true => exact st _ (Below.refl _ _).drew
  | false => exact st _ (Below.refl _ _)
 ·obtain ⟨v0, hv0⟩ := hall 0 h0
  rcases hG.st with h1 | ⟨x, h1, h2⟩
  ·exact absurd hv0 (h1 _ _)
  ·exact hQ a w' x hk hG.below h1 (fun p c d hc hcd => h2 _ _ (hl p c d hc hcd)) hu
end
end Go.Proofs.Ythhgidliopohcaa
