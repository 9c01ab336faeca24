/- Pairs of terms, in memory. -/
import Derived.Test.YthhgidliopohcaaUNOb
import Derived.Test.YthhgidliopohcaaUNOc
import Derived.Test.YthhgidliopohcaaUNOa

/- What a part becomes is measured: the program. -/
namespace Go.Proofs.Ythhgidliopohcaa
open Go.RowKit Go
set_option linter.unusedVariables false
set_option linter.unusedSimpArgs false
theorem args_le : ∀ {N : List Pt} {r : Nat}, r < N.length → (pget N r).args.length ≤ argN N
 | x :: N, 0, _ => by show x.args.length ≤ _; unfold argN; rw [List.map_cons, List.sum_cons]; omega
 | x :: N, r + 1, h => by
  have := args_le (N := N) (r := r) (by simpa using h)
  have e : pget (x :: N) (r + 1) = pget N r := rfl
  rw [e]; unfold argN at *; rw [List.map_cons, List.sum_cons]; omega
/-- How measuring stands. -/
structure AS where
 k : Nat
 U : List Nat
 ms : List Ms
set_option maxRecDepth 100000 in
theorem pask_any (κ d : Nat → Nat) (N : List Pt) (V : Nat → Nat) (g : Nat) (S : Nat → Prop) (ub uc : Nat) (oa : Option Addr) (oc mb mc : Nat) (hk : KOk N κ) (hN : NOk N) (hn : N.length ≤ 1048576) (hs : argN N ≤ 1048576) (n : Nat) : ∀ (ms : List Ms) (U : List Nat) (i : Nat) (w : World), unS ms ≤ n → PN w g S (some ⟨ub, 0, none⟩) uc oa oc U N V → Reps U κ d → AskOk N κ ms → MB w mb ms → ¬ PZ g S (some ⟨ub, 0, none⟩) uc oa oc N.length mb → i < N.length →
  Calls Try.prog 45 #[.pointer (some ⟨g, 0, none⟩), .slice (some ⟨mb, 0, none⟩) N.length mc, .int .i64 (i : Int)] w (Ret fun v' w' => ∃ bb : Bool, v' = .bool bb ∧ Chg (fun b => b = ub ∨ b = mb) w w' ∧ (bb = true → ∃ U' ms', Reps U' κ d ∧ PN w' g S (some ⟨ub, 0, none⟩) uc oa oc U' N V ∧ MB w' mb ms' ∧ AskOk N κ ms' ∧ MExt ms ms' ∧ 0 < (mget ms' (κ i)).sz) ∧ (bb = false → NoMeas N κ ms i)) := by
 induction n using Nat.strongRecOn with
 | _ n ih => ?_
 intro ms U i w hun hP hR hA hM hmZ hi
 have hC0 := Chg.refl (fun b => b = ub ∨ b = mb) w
 have hubZ : PZ g S (some ⟨ub, 0, none⟩) uc oa oc N.length ub := .inr (.inl rfl)
 have hum : mb ≠ ub := fun e => hmZ (e ▸ hubZ)
 have hlr : κ i < N.length := hk.lt _ hi
 have hkr : κ (κ i) = κ i := hk.idem _
 have hml := hA.len
 have hal9 := args_le hlr
 have hubl := hP.lt ub hubZ
 have hSub : ∀ b, S b → ¬ (b = ub ∨ b = mb) := fun b q e => e.elim (fun e => (hP.uS ub rfl).1 (e ▸ q)) (fun e => hmZ (e ▸ .inr (.inr (.inr q))))
 refine Calls.walk (l := [.pointer (some ⟨g, 0, none⟩), .slice ((some ⟨mb, 0, none⟩)) N.length mc, .int .i64 (((i : Nat) : Int))]) Try.func45 rfl (by kernel_rfl) ?_
 refine WC.sub (K' := [(0, .pointer (some ⟨g, 0, none⟩)), (1, .slice ((some ⟨mb, 0, none⟩)) N.length mc), (2, .int .i64 (((i : Nat) : Int)))]) ⟨rfl, rfl, rfl, trivial⟩ ?_
 refine WC.seq (WC.region (WL.asg rfl rfl rfl rfl rfl (WL.nil (WE.next (WC.seq (WC.region (WL.mv rfl rfl rfl rfl rfl ?_)))))))
 refine WL.val _ rfl rfl rfl (fun za zC zh zk => nilCheck_ rfl (zh.ev rfl) zk) ?_
 refine WL.val _ rfl rfl rfl (fun za zC zh zk => fld_54_0 rfl (zh.ev rfl) zk) ?_
 refine WL.mv rfl rfl rfl rfl rfl ?_
 refine WL.call rfl rfl rfl (fun za zh zC => wp_call (by kernel_rfl) rfl (hv2 (zh.ev rfl) (zh.ev rfl))) (ptop_pn κ d U N V g S ub uc _ oc i _ hP hR hi hn) ?_
 rintro _ w5 ⟨rfl, ⟨U1, hR2, hP3⟩, hc4⟩
 have hM6 := hM.chg hc4 (fun e => hum e)
 have hC7 := Chg.trans hC0 (Chg.mono (S' := (fun b => b = ub ∨ b = mb)) hc4 (fun b e => .inl e))
 refine WL.asg rfl rfl rfl rfl rfl (WL.nil (WE.next (WC.seq (WC.block (WC.seq (WC.region (WL.mv rfl rfl rfl rfl rfl (WL.mv rfl rfl rfl rfl rfl ?_))))))))
 refine WL.val _ rfl rfl rfl (fun za zC zh zk => ix_45 (k := (κ i)) rfl (zh.ev rfl) rfl (zh.ev rfl) (by first | omega | (simp; omega)) zk) ?_
 refine WL.val _ rfl rfl rfl (fun za zC zh zk => fld_59_2 rfl (zh.ev rfl) zk) ?_
 refine WL.val _ rfl rfl rfl (fun za zC zh zk => ld_4 rfl (zh.ev rfl) (hM6.c2 (by first | omega | (simp only [List.length_set]; omega))) zk) ?_
 refine WL.asg rfl rfl rfl rfl rfl (WL.nil (WE.next ?_))
 refine WC.cond rfl (fun h8 => ?_) (fun h8 => ?_)
 ·skip
  refine WC.seq (WC.region (WL.asg rfl rfl rfl rfl rfl (WL.nil (WE.next (WC.ret (WE.blockRet (WE.thenRet (WE.ret1 rfl rfl ?_))))))))
  exact ⟨_, rfl, false, rfl, hC7, (fun e => nomatch e), (fun _ sz dp hm => ⟨κ i, by simpa using h8, Nat.le_refl _⟩)⟩
 ·skip
  refine WC.seq (WC.region (WL.mv rfl rfl rfl rfl rfl (WL.mv rfl rfl rfl rfl rfl ?_)))
  refine WL.val _ rfl rfl rfl (fun za zC zh zk => ix_45 (k := (κ i)) rfl (zh.ev rfl) rfl (zh.ev rfl) (by first | omega | (simp; omega)) zk) ?_
  refine WL.val _ rfl rfl rfl (fun za zC zh zk => fld_59_0 rfl (zh.ev rfl) zk) ?_
  refine WL.val _ rfl rfl rfl (fun za zC zh zk => ld_3 rfl (zh.ev rfl) (hM6.c0 (by first | omega | (simp only [List.length_set]; omega))) zk) ?_
  refine WL.val (.bool ((decide ((0 : Int) < ((((mget ms ((κ i))).sz : Nat) : Int) : Int))))) rfl rfl rfl (fun za zC zh zk => gtr_3 rfl (zh.ev rfl) (zh.ev rfl) zk) ?_
  refine WL.asg rfl rfl rfl rfl rfl (WL.nil (WE.next ?_))
  refine WC.cond rfl (fun h9 => ?_) (fun h9 => ?_)
  ·have h9 : (0 : Int) < ((((mget ms ((κ i))).sz : Nat) : Int) : Int) := by simpa using h9
   refine WC.seq (WC.region (WL.asg rfl rfl rfl rfl rfl (WL.nil (WE.next (WC.ret (WE.blockRet (WE.thenRet (WE.ret1 rfl rfl ?_))))))))
   exact ⟨_, rfl, true, rfl, hC7, (fun _ => ⟨U1, ms, hR2, hP3, hM6, hA, MExt.refl _, by omega⟩), (fun e => nomatch e)⟩
  ·have h9 : ¬ ((0 : Int) < ((((mget ms ((κ i))).sz : Nat) : Int) : Int)) := by simpa using h9
   refine WC.skip (WE.blockNormal (WE.next (WC.seq (WC.region (WL.mv rfl rfl rfl rfl rfl (WL.mv rfl rfl rfl rfl rfl ?_))))))
   refine WL.val _ rfl rfl rfl (fun za zC zh zk => ix_45 (k := (κ i)) rfl (zh.ev rfl) rfl (zh.ev rfl) (by first | omega | (simp; omega)) zk) ?_
   refine WL.val _ rfl rfl rfl (fun za zC zh zk => fld_59_2 rfl (zh.ev rfl) zk) ?_
   have hz0 : (mget ms (κ i)).sz = 0 := by omega
   have hz1 : (mget ms (κ i)).op = false := by simpa using h8
   obtain ⟨hA1, hu1⟩ := hA.opn hlr hz0 hz1
   obtain ⟨⟨cs10, hB11, hs12⟩, hM13⟩ := hM6.setOp (r := κ i) (by first | omega | (simp only [List.length_set]; omega))
   refine WL.step (post := fun _ w' => Upd mb w5 w' ∧ MB w' mb (ms.set (κ i) ⟨(mget ms (κ i)).sz, (mget ms (κ i)).dp, true⟩)) rfl rfl rfl (fun za zC zh zk => st_4 rfl (zh.ev rfl) (zh.ev rfl) hB11 hs12 (fun v => zk v _ ⟨Upd.at_ _ _ _ _, hM13⟩)) ?_
   rintro u14 w15 ⟨hu16, hM17⟩
   have hc19 : Chg (fun b => b = mb) w5 w15 := .ofUpd hu16 rfl
   have hP18 := PN.upd hP3 hu16 hmZ
   have hC20 := Chg.trans hC7 (Chg.mono (S' := (fun b => b = ub ∨ b = mb)) hc19 (fun b e => .inr e))
   refine WL.nil (WE.sub (K' := [(0, .pointer (some ⟨g, 0, none⟩)), (1, .slice ((some ⟨mb, 0, none⟩)) N.length mc), (2, .int .i64 ((((κ i) : Nat) : Int))), (6, .bool false), (17, .bool ((mget ms ((κ i))).op)), (23, .bool ((decide ((0 : Int) < ((((mget ms ((κ i))).sz : Nat) : Int) : Int)))))]) ⟨rfl, rfl, rfl, rfl, rfl, rfl, trivial⟩ ?_)
   refine WE.next (WC.seq (WC.region (WL.asg rfl rfl rfl rfl rfl (WL.asg rfl rfl rfl rfl rfl (WL.nil (WE.next (WC.seq (WC.seq ?_))))))))
   obtain ⟨ob, A9, C9, rfl, hob, hcP⟩ := hP18.ofP (by omega)
   refine WC.region (WL.mv rfl rfl rfl rfl rfl ?_)
   refine WL.val _ rfl rfl rfl (fun za zC zh zk => nilCheck_ rfl (zh.ev rfl) zk) ?_
   refine WL.val _ rfl rfl rfl (fun za zC zh zk => fld_54_0 rfl (zh.ev rfl) zk) ?_
   refine WL.val _ rfl rfl rfl (fun za zC zh zk => fld_51_1 rfl (zh.ev rfl) zk) ?_
   refine WL.val _ rfl rfl rfl (fun za zC zh zk => ld_49 rfl (zh.ev rfl) hP18.c1 zk) ?_
   refine WL.mv rfl rfl rfl rfl rfl ?_
   refine WL.val _ rfl rfl rfl (fun za zC zh zk => ix_49 (k := (κ i)) rfl (zh.ev rfl) rfl (zh.ev rfl) (by first | omega | (simp; omega)) zk) ?_
   refine WL.val _ rfl rfl rfl (fun za zC zh zk => fld_57_1 rfl (zh.ev rfl) zk) ?_
   refine WL.val _ rfl rfl rfl (fun za zC zh zk => ld_48 rfl (zh.ev rfl) (hcP ((κ i)) (by first | omega | (simp; omega))).2.1 zk) ?_
   refine WL.val (.int .i64 ((((pget N ((κ i))).args.length : Nat) : Int))) rfl rfl rfl (fun za zC zh zk => len_48 rfl (zh.ev rfl) zk) ?_
   refine WL.mv rfl rfl rfl rfl rfl (WL.nil (WE.next (WC.block ?_)))
   refine WC.loop (X := AS) (fun x => (pget N (κ i)).args.length - x.k) (fun x => [(0, .pointer (some ⟨g, 0, none⟩)), (1, .slice ((some ⟨mb, 0, none⟩)) N.length mc), (2, .int .i64 ((((κ i) : Nat) : Int))), (7, .int .i64 ((((szF κ (msz x.ms) ((pget N (κ i)).args.take x.k)) : Nat) : Int))), (8, .int .i64 ((((dpF κ (mdp x.ms) ((pget N (κ i)).args.take x.k)) : Nat) : Int))), (17, .bool ((mget ms ((κ i))).op)), (23, .bool ((decide ((0 : Int) < ((((mget ms ((κ i))).sz : Nat) : Int) : Int))))), (42, .slice ((A9 ((κ i)))) ((pget N ((κ i))).args.length) ((C9 ((κ i))))), (43, .int .i64 ((((pget N ((κ i))).args.length : Nat) : Int))), (44, .int .i64 (((x.k : Nat) : Int)))]) (fun x w21 => x.k ≤ (pget N (κ i)).args.length ∧ Reps x.U κ d ∧ AskOk N κ x.ms ∧ MExt (ms.set (κ i) ⟨(mget ms (κ i)).sz, (mget ms (κ i)).dp, true⟩) x.ms ∧ (∀ a ∈ (pget N (κ i)).args.take x.k, 0 < (mget x.ms (κ a)).sz) ∧ Chg (fun b => b = ub ∨ b = mb) w w21 ∧ PN (w21) g S (some ⟨ub, 0, none⟩) uc (some ⟨ob, 0, none⟩) oc x.U N V ∧ MB (w21) mb x.ms ∧ InRow eltN S (w21) (pget N (κ i)).args (A9 (κ i))) (⟨0, U1, (ms.set (κ i) ⟨(mget ms (κ i)).sz, (mget ms (κ i)).dp, true⟩)⟩) ⟨rfl, rfl, rfl, rfl, rfl, rfl, rfl, rfl, rfl, rfl, trivial⟩ ?_ ?_
   ·exact ⟨Nat.zero_le _, hR2, hA1, MExt.refl _, (fun a h9 => by simp at h9), hC20, hP18, hM17, (hcP (κ i) hlr).2.2⟩
   ·rintro x w21 ⟨hkx, hRx, hAx, hEx, hDx, hCx, ho22, ho23, ho24⟩
    have hmx := hAx.len
    refine WC.seq (WC.region ?_)
    refine WL.val (.bool ((decide ((((x.k : Nat) : Int) : Int) < ((((pget N ((κ i))).args.length : Nat) : Int) : Int))))) rfl rfl rfl (fun za zC zh zk => lss_3 rfl (zh.ev rfl) (zh.ev rfl) zk) ?_
    refine WL.nil (WE.next (WC.seq ?_))
    refine WC.cond rfl (fun h25 => ?_) (fun h25 => ?_)
    ·have h25 : (((x.k : Nat) : Int) : Int) < ((((pget N ((κ i))).args.length : Nat) : Int) : Int) := by simpa using h25
     refine WC.skip (WE.next (WC.seq (WC.block (WC.seq (WC.region ?_)))))
     obtain ⟨b26, o27, ha28, hS29, hc30⟩ := InRow.openNS ho24
     have hSb31 := hS29 x.k (by first | omega | (simp; omega))
     refine WL.val _ rfl rfl rfl (fun za zC zh zk => ix_48 (k := x.k) rfl (zh.ev rfl) (ha28 x.k (by first | omega | (simp; omega))) (zh.ev rfl) (by first | omega | (simp; omega)) zk) ?_
     refine WL.val _ rfl rfl rfl (fun za zC zh zk => ld_3 rfl (zh.ev rfl) (hc30 x.k (by first | omega | (simp; omega))) zk) ?_
     refine WL.asg rfl rfl rfl rfl rfl (WL.nil (WE.next (WC.seq (WC.seq (WC.region (WL.mv rfl rfl rfl rfl rfl (WL.mv rfl rfl rfl rfl rfl (WL.mv rfl rfl rfl rfl rfl ?_))))))))
     have hkl : x.k < (pget N (κ i)).args.length := by omega
     have ham : (aget (pget N (κ i)).args x.k) ∈ (pget N (κ i)).args := aget_mem hkl
     have hal : (aget (pget N (κ i)).args x.k) < N.length := by have z := (hN (κ i) hlr).1 _ ham; omega
     have hux := hEx.un
     refine WL.call rfl rfl rfl (fun za zh zC => wp_call (by kernel_rfl) rfl (hv3 (zh.ev rfl) (zh.ev rfl) (zh.ev rfl))) (ih (n - 1) (by omega) x.ms x.U (aget (pget N (κ i)).args x.k) _ (by omega) ho22 hRx hAx ho23 hmZ hal) ?_
     rintro _ w36 ⟨bb32, rfl, hc33, h34, h35⟩
     have hC37 := Chg.trans hCx hc33
     have ha38 := ho24.chgS hc33 (fun q e h9 => hSub q e h9)
     refine WL.val (.bool ((!bb32))) rfl rfl rfl (fun za zC zh zk => wp_not rfl (zh.ev rfl) zk) ?_
     refine WL.nil (WE.next ?_)
     refine WC.cond rfl (fun h39 => ?_) (fun h39 => ?_)
     ·have h39 : ¬ (bb32 = true) := by simpa using h39
      refine WC.seq (WC.region (WL.asg rfl rfl rfl rfl rfl (WL.nil (WE.next (WC.ret (WE.thenRet (WE.blockRet (WE.thenRet (WE.thenRet (WE.blockRet (WE.thenRet (WE.ret1 rfl rfl ?_))))))))))))
      exact ⟨_, rfl, false, rfl, hC37, (fun e => nomatch e), fun _ => NoMeas.up hi hml hlr hEx ham (h35 (by simpa using h39))⟩
     ·have h39 : ¬ (¬ (bb32 = true)) := by simpa using h39
      refine WC.skip (WE.next (WC.seq ?_))
      obtain ⟨U3, ms3, hR3, hP3, hM3, hA3, hE3, hD3⟩ := h34 (by simpa using h39)
      have hE4 := hEx.trans hE3
      have hm3 := hA3.len
      have hka : κ (aget (pget N (κ i)).args x.k) < N.length := hk.lt _ hal
      have htk := List.take_succ_eq_append_getElem hkl
      rw [← aget_lt hkl] at htk
      have hD4 : ∀ a ∈ (pget N (κ i)).args.take (x.k + 1), 0 < (mget ms3 (κ a)).sz := fun a h9 => by
       rw [htk] at h9
       rcases List.mem_append.1 h9 with z | z
       ·rw [hE3.keep _ (.inr (hDx a z))]; exact hDx a z
       ·rw [List.mem_singleton.1 z]; exact hD3
      have hS4 : (szF κ (msz ms3) ((pget N (κ i)).args.take (x.k + 1))) = min ((szF κ (msz x.ms) ((pget N (κ i)).args.take x.k)) + (mget ms3 (κ (aget (pget N (κ i)).args x.k))).sz) capS := by rw [htk, szF_snoc, szF_congr (f := msz ms3) (g := msz x.ms) _ (fun a h9 => by show (mget ms3 (κ a)).sz = _; rw [hE3.keep _ (.inr (hDx a h9))])]
      have hD5 : (dpF κ (mdp ms3) ((pget N (κ i)).args.take (x.k + 1))) = max (dpF κ (mdp x.ms) ((pget N (κ i)).args.take x.k)) ((mget ms3 (κ (aget (pget N (κ i)).args x.k))).dp + 1) := by rw [htk, dpF_snoc, dpF_congr (f := mdp ms3) (g := mdp x.ms) _ (fun a h9 => by show (mget ms3 (κ a)).dp = _; rw [hE3.keep _ (.inr (hDx a h9))])]
      have hb3 := hA3.bnd _ hD3
      have hn3 := ndS_le ms3
      have hsp := szF_pos (κ := κ) (f := msz x.ms) ((pget N (κ i)).args.take x.k)
      unfold capS at hb3 hsp hS4
      refine WC.region (WL.mv rfl rfl rfl rfl rfl (WL.mv rfl rfl rfl rfl rfl ?_))
      refine WL.val _ rfl rfl rfl (fun za zC zh zk => nilCheck_ rfl (zh.ev rfl) zk) ?_
      refine WL.val _ rfl rfl rfl (fun za zC zh zk => fld_54_0 rfl (zh.ev rfl) zk) ?_
      refine WL.mv rfl rfl rfl rfl rfl ?_
      refine WL.call rfl rfl rfl (fun za zh zC => wp_call (by kernel_rfl) rfl (hv2 (zh.ev rfl) (zh.ev rfl))) (ptop_pn κ d U3 N V g S ub uc _ oc (aget (pget N (κ i)).args x.k) _ hP3 hR3 hal hn) ?_
      rintro _ w44 ⟨rfl, ⟨U40, hR41, hP42⟩, hc43⟩
      have hM45 := hM3.chg hc43 (fun e => hum e)
      have hC46 := Chg.trans hC37 (Chg.mono (S' := (fun b => b = ub ∨ b = mb)) hc43 (fun b e => .inl e))
      have ha47 := ha38.chgS (Chg.mono (S' := (fun b => b = ub ∨ b = mb)) hc43 (fun b e => .inl e)) (fun q e h9 => hSub q e h9)
      refine WL.val _ rfl rfl rfl (fun za zC zh zk => ix_45 (k := (κ (aget (pget N (κ i)).args x.k))) rfl (zh.ev rfl) rfl (zh.ev rfl) (by first | omega | (simp; omega)) zk) ?_
      refine WL.val _ rfl rfl rfl (fun za zC zh zk => ld_59 rfl (zh.ev rfl) (hM45.c0 (by first | omega | (simp only [List.length_set]; omega))) (hM45.c1 (by first | omega | (simp only [List.length_set]; omega))) (hM45.c2 (by first | omega | (simp only [List.length_set]; omega))) zk) ?_
      refine WL.step (post := NewBlk w44 59 #[.int .i64 0, .int .i64 0, .bool false]) rfl rfl rfl (fun za zC zh zk => alloc_59 rfl (zk _ _ (newBlk _ _ _))) ?_
      rintro _ w48 ⟨g49, rfl, hg50, hB51, hb52, hz53⟩
      have hl54 : w44.heap.size ≤ g49 := by omega
      refine WL.step (post := fun _ w' => Upd g49 w48 w' ∧ Blk w' g49 59 #[.int .i64 ((((mget ms3 ((κ (aget (pget N (κ i)).args x.k)))).sz : Nat) : Int)), .int .i64 ((((mget ms3 ((κ (aget (pget N (κ i)).args x.k)))).dp : Nat) : Int)), .bool ((mget ms3 ((κ (aget (pget N (κ i)).args x.k)))).op)]) rfl rfl rfl (fun za zC zh zk => st_59 rfl (zh.ev rfl) (zh.ev rfl) rfl rfl rfl hB51 (by first | decide | simp) (fun v => zk v _ ⟨((Upd.at_ _ _ _ _).trans (Upd.at_ _ _ _ _)).trans (Upd.at_ _ _ _ _), ((hB51.set_ 0 _).set_ 1 _).set_ 2 _⟩)) ?_
      rintro v58 w55 ⟨hu56, hB57⟩
      have hb59 := upd_below hb52 hu56 (by omega)
      refine WL.nil (WE.next ?_)
      refine WC.seqV (S := ((fun b => b < 0))) [(true, .val (.int .i64 ((((szF κ (msz x.ms) ((pget N (κ i)).args.take x.k)) : Nat) : Int)))), (true, .val (.pointer (some ⟨g49, 0, none⟩))), (true, .val (.int .i64 ((((mget ms3 ((κ (aget (pget N (κ i)).args x.k)))).sz : Nat) : Int)))), (true, .val (.int .i64 (((((szF κ (msz x.ms) ((pget N (κ i)).args.take x.k)) + (mget ms3 ((κ (aget (pget N (κ i)).args x.k)))).sz) : Nat) : Int)))), (true, .val (.int .i64 ((min (((((szF κ (msz x.ms) ((pget N (κ i)).args.take x.k)) + (mget ms3 ((κ (aget (pget N (κ i)).args x.k)))).sz) : Nat) : Int)) 1099511627776)))), (true, .val (.int .i64 ((((dpF κ (mdp x.ms) ((pget N (κ i)).args.take x.k)) : Nat) : Int)))), (true, .val (.pointer (some ⟨g49, 1, none⟩))), (true, .val (.int .i64 ((((mget ms3 ((κ (aget (pget N (κ i)).args x.k)))).dp : Nat) : Int)))), (true, .val (.int .i64 (((((mget ms3 ((κ (aget (pget N (κ i)).args x.k)))).dp + 1) : Nat) : Int)))), (true, .val (.int .i64 ((max ((((dpF κ (mdp x.ms) ((pget N (κ i)).args.take x.k)) : Nat) : Int)) (((((mget ms3 ((κ (aget (pget N (κ i)).args x.k)))).dp + 1) : Nat) : Int)))))), (true, .val undef), (true, .val undef)] [(0, .pointer (some ⟨g, 0, none⟩)), (1, .slice ((some ⟨mb, 0, none⟩)) N.length mc), (2, .int .i64 ((((κ i) : Nat) : Int))), (10, .int .i64 ((((aget ((pget N (κ i)).args) x.k) : Nat) : Int))), (11, .pointer (some ⟨g49, 0, none⟩)), (17, .bool ((mget ms ((κ i))).op)), (23, .bool ((decide ((0 : Int) < ((((mget ms ((κ i))).sz : Nat) : Int) : Int))))), (42, .slice ((A9 ((κ i)))) ((pget N ((κ i))).args.length) ((C9 ((κ i))))), (43, .int .i64 ((((pget N ((κ i))).args.length : Nat) : Int))), (44, .int .i64 (((x.k : Nat) : Int))), (45, .bool ((decide ((((x.k : Nat) : Int) : Int) < ((((pget N ((κ i))).args.length : Nat) : Int) : Int))))), (52, .bool ((!bb32)))] [10, 11] [some (true, .int .i64 ((((szF κ (msz ms3) ((pget N (κ i)).args.take (x.k + 1))) : Nat) : Int))), some (true, .int .i64 ((((dpF κ (mdp ms3) ((pget N (κ i)).args.take (x.k + 1))) : Nat) : Int)))] (fun _ _ => True) ((fun _ _ _ _ _ => trivial)) (by decide) ⟨rfl, rfl, rfl, rfl, rfl, rfl, rfl, rfl, rfl, rfl, rfl, rfl, trivial⟩ (by kernel_rfl) (by kernel_rfl) (by kernel_rfl) (by kernel_rfl) trivial ?_ ?_
      ·refine ⟨.inl ⟨rfl, true, .none rfl, (fun gg b h => by cases h), fun h w => optUndef h, fun zβ za zw zc => ?_⟩, ?_⟩
       ·exact wp_move rfl ((evt za 7).trans (zc.old 7 _ rfl (by kernel_rfl))) ⟨_, rfl, Below.refl _ _, optDef zβ rfl⟩
       refine ⟨.inl ⟨rfl, true, .none rfl, (fun gg b h => by cases h), fun h w => optUndef h, fun zβ za zw zc => ?_⟩, ?_⟩
       ·exact fld_59_0 rfl (zc.kn.ev rfl) ⟨_, rfl, Below.refl _ _, optDef zβ rfl⟩
       refine ⟨.inl ⟨rfl, true, .none rfl, (fun gg b h => by cases h), fun h w => optUndef h, fun zβ za zw zc => ?_⟩, ?_⟩
       ·exact ld_3 rfl ((evt za 62).trans (optSVal (zc.dep 1 62 (by kernel_rfl) (by decide)) rfl rfl)) (chg_cell zc.chg (by (try dsimp only at *); omega) ((hB57.cell 0).trans rfl)) ⟨_, rfl, Below.refl _ _, optDef zβ rfl⟩
       refine ⟨.inl ⟨rfl, true, .none rfl, (fun gg b h => by cases h), fun h w => optUndef h, fun zβ za zw zc => ?_⟩, ?_⟩
       ·exact addb_3 rfl ((evt za 61).trans (optSVal (zc.dep 0 61 (by kernel_rfl) (by decide)) rfl rfl)) ((evt za 63).trans (optSVal (zc.dep 2 63 (by kernel_rfl) (by decide)) rfl rfl)) (wrap_eq (by omega) (by omega) (by omega)) ⟨_, rfl, Below.refl _ _, optDef zβ rfl⟩
       refine ⟨.inl ⟨rfl, true, .none rfl, (fun gg b h => by cases h), fun h w => optUndef h, fun zβ za zw zc => ?_⟩, ?_⟩
       ·exact min_3 rfl ((evt za 64).trans (optSVal (zc.dep 3 64 (by kernel_rfl) (by decide)) rfl rfl)) (zc.kn.ev rfl) ⟨_, rfl, Below.refl _ _, optDef zβ rfl⟩
       refine ⟨.inl ⟨rfl, true, .none rfl, (fun gg b h => by cases h), fun h w => optUndef h, fun zβ za zw zc => ?_⟩, ?_⟩
       ·exact wp_move rfl ((evt za 8).trans (zc.old 8 _ rfl (by kernel_rfl))) ⟨_, rfl, Below.refl _ _, optDef zβ rfl⟩
       refine ⟨.inl ⟨rfl, true, .none rfl, (fun gg b h => by cases h), fun h w => optUndef h, fun zβ za zw zc => ?_⟩, ?_⟩
       ·exact fld_59_1 rfl (zc.kn.ev rfl) ⟨_, rfl, Below.refl _ _, optDef zβ rfl⟩
       refine ⟨.inl ⟨rfl, true, .none rfl, (fun gg b h => by cases h), fun h w => optUndef h, fun zβ za zw zc => ?_⟩, ?_⟩
       ·exact ld_3 rfl ((evt za 67).trans (optSVal (zc.dep 6 67 (by kernel_rfl) (by decide)) rfl rfl)) (chg_cell zc.chg (by (try dsimp only at *); omega) ((hB57.cell 1).trans rfl)) ⟨_, rfl, Below.refl _ _, optDef zβ rfl⟩
       refine ⟨.inl ⟨rfl, true, .none rfl, (fun gg b h => by cases h), fun h w => optUndef h, fun zβ za zw zc => ?_⟩, ?_⟩
       ·exact addb_3 rfl ((evt za 68).trans (optSVal (zc.dep 7 68 (by kernel_rfl) (by decide)) rfl rfl)) (zc.kn.ev rfl) (wrap_eq (by omega) (by omega) (by omega)) ⟨_, rfl, Below.refl _ _, optDef zβ rfl⟩
       refine ⟨.inl ⟨rfl, true, .none rfl, (fun gg b h => by cases h), fun h w => optUndef h, fun zβ za zw zc => ?_⟩, ?_⟩
       ·exact max_3 rfl ((evt za 66).trans (optSVal (zc.dep 5 66 (by kernel_rfl) (by decide)) rfl rfl)) ((evt za 69).trans (optSVal (zc.dep 8 69 (by kernel_rfl) (by decide)) rfl rfl)) ⟨_, rfl, Below.refl _ _, optDef zβ rfl⟩
       refine ⟨.inr ⟨0, rfl, by kernel_rfl, true, .none rfl, (fun gg b h => by cases h), (fun h => (nomatch h)), fun zβ za zw zvals zc => ?_⟩, ?_⟩
       ·obtain rfl := vlen0 zc.len
        have zn := zc.now
        exact wp_assign rfl ((((evt za 65).trans (optSVal (zc.dep 4 65 (by kernel_rfl) (by decide)) rfl rfl))).trans (congrArg (Value.int .i64) (by rw [hS4]; omega))) ⟨_, rfl, .ofBelow (Below.refl _ _), trivial, cvIs rfl⟩
       refine ⟨.inr ⟨1, rfl, by kernel_rfl, true, .none rfl, (fun gg b h => by cases h), (fun h => (nomatch h)), fun zβ za zw zvals zc => ?_⟩, ?_⟩
       ·obtain ⟨z0, rfl⟩ := vlen1 zc.len
        have zn := zc.now
        exact wp_assign rfl ((((evt za 70).trans (optSVal (zc.dep 9 70 (by kernel_rfl) (by decide)) rfl rfl))).trans (congrArg (Value.int .i64) (by rw [hD5]; omega))) ⟨_, rfl, .ofBelow (Below.refl _ _), trivial, cvIs rfl⟩
       exact trivial
      ·intro za w60 zvals zh zl hG61 hc62 zu zw zk
       obtain ⟨z0, z1, rfl⟩ := vlen2 zl
       have zh := zh.cons (d := 7) (v := .int .i64 ((((szF κ (msz ms3) ((pget N (κ i)).args.take (x.k + 1))) : Nat) : Int))) (zk 0 10 7 _ _ rfl (by kernel_rfl) rfl rfl)
       have zh := zh.cons (d := 8) (v := .int .i64 ((((dpF κ (mdp ms3) ((pget N (κ i)).args.take (x.k + 1))) : Nat) : Int))) (zk 1 11 8 _ _ rfl (by kernel_rfl) rfl rfl)
       have hb63 := Chg.toBelow hc62
       clear zu zw zk
       refine WE.go zh ?_
       refine WE.blockNormal (WE.next (WC.region ?_))
       refine WL.val (.int .i64 ((((x.k + 1) : Nat) : Int))) rfl rfl rfl (fun za zC zh zk => addb_3 rfl (zh.ev rfl) (zh.ev rfl) (wrap_eq (by omega) (by omega) (by omega)) zk) ?_
       refine WL.mv rfl rfl rfl rfl rfl ?_
       refine WL.nil (WE.sub (K' := [(0, .pointer (some ⟨g, 0, none⟩)), (1, .slice ((some ⟨mb, 0, none⟩)) N.length mc), (2, .int .i64 ((((κ i) : Nat) : Int))), (7, .int .i64 ((((szF κ (msz ms3) ((pget N (κ i)).args.take (x.k + 1))) : Nat) : Int))), (8, .int .i64 ((((dpF κ (mdp ms3) ((pget N (κ i)).args.take (x.k + 1))) : Nat) : Int))), (10, .int .i64 ((((aget ((pget N (κ i)).args) x.k) : Nat) : Int))), (11, .pointer (some ⟨g49, 0, none⟩)), (17, .bool ((mget ms ((κ i))).op)), (23, .bool ((decide ((0 : Int) < ((((mget ms ((κ i))).sz : Nat) : Int) : Int))))), (42, .slice ((A9 ((κ i)))) ((pget N ((κ i))).args.length) ((C9 ((κ i))))), (43, .int .i64 ((((pget N ((κ i))).args.length : Nat) : Int))), (44, .int .i64 ((((x.k + 1) : Nat) : Int))), (45, .bool ((decide ((((x.k : Nat) : Int) : Int) < ((((pget N ((κ i))).args.length : Nat) : Int) : Int))))), (52, .bool ((!bb32)))]) ⟨rfl, rfl, rfl, rfl, rfl, rfl, rfl, rfl, rfl, rfl, rfl, rfl, rfl, rfl, trivial⟩ ?_)
       have hb65 : Below w44.heap.size w44 w60 := (bstep hb59 hb63)
       have hC64 := Chg.trans hC46 (.ofBelow hb65)
       refine WE.round (⟨x.k + 1, U40, ms3⟩) ⟨rfl, rfl, rfl, rfl, rfl, rfl, rfl, rfl, rfl, rfl, trivial⟩ ?_ ?_
       ·have ho66 := hP42.below hb65
        have ho67 := hM45.below hb65
        have ho68 := ha47.below hb65
        exact ⟨(by (try dsimp only); omega), hR41, hA3, hE4, hD4, hC64, ho66, ho67, ho68⟩
       ·(try dsimp only); omega
    ·have h25 : ¬ ((((x.k : Nat) : Int) : Int) < ((((pget N ((κ i))).args.length : Nat) : Int) : Int)) := by simpa using h25
     refine WC.exit (WE.thenExit (WE.thenExit (WE.blockIs rfl (WE.next (WC.seq ?_)))))
     have hke : x.k = (pget N (κ i)).args.length := by omega
     have htl : (pget N (κ i)).args.take x.k = (pget N (κ i)).args := by rw [hke, List.take_length]
     obtain ⟨hA5, hE5, hz5⟩ := hAx.fin (ms := ms) hlr hz0 hz1 hml hEx (by rw [htl] at hDx; exact hDx)
     refine WC.region (WL.mv rfl rfl rfl rfl rfl (WL.mv rfl rfl rfl rfl rfl (WL.mv rfl rfl rfl rfl rfl (WL.mv rfl rfl rfl rfl rfl ?_))))
     refine WL.val (.agg #[.int .i64 ((((szF κ (msz x.ms) ((pget N (κ i)).args.take x.k)) : Nat) : Int)), .int .i64 ((((dpF κ (mdp x.ms) ((pget N (κ i)).args.take x.k)) : Nat) : Int)), .bool false]) rfl rfl rfl (fun za zC zh zk => build_59_0_1 rfl (zh.ev rfl) (zh.ev rfl) zk) ?_
     refine WL.val _ rfl rfl rfl (fun za zC zh zk => ix_45 (k := (κ i)) rfl (zh.ev rfl) rfl (zh.ev rfl) (by first | omega | (simp; omega)) zk) ?_
     obtain ⟨⟨cs69, hB70, hs71⟩, hM72⟩ := ho23.setAll (r := κ i) (by first | omega | (simp only [List.length_set]; omega))
     refine WL.step (post := fun _ w' => Upd mb w21 w' ∧ MB w' mb (x.ms.set (κ i) ⟨(szF κ (msz x.ms) ((pget N (κ i)).args.take x.k)), (dpF κ (mdp x.ms) ((pget N (κ i)).args.take x.k)), false⟩)) rfl rfl rfl (fun za zC zh zk => st_59 rfl (zh.ev rfl) (zh.ev rfl) rfl rfl rfl hB70 hs71 (fun v => zk v _ ⟨((Upd.at_ _ _ _ _).trans (Upd.at_ _ _ _ _)).trans (Upd.at_ _ _ _ _), hM72⟩)) ?_
     rintro u73 w74 ⟨hu75, hM76⟩
     have hc78 : Chg (fun b => b = mb) w21 w74 := .ofUpd hu75 rfl
     have hP77 := PN.upd ho22 hu75 hmZ
     have hC79 := Chg.trans hCx (Chg.mono (S' := (fun b => b = ub ∨ b = mb)) hc78 (fun b e => .inr e))
     have ha80 := ho24.chgS (Chg.mono (S' := (fun b => b = ub ∨ b = mb)) hc78 (fun b e => .inr e)) (fun q e h9 => hSub q e h9)
     refine WL.nil (WE.next (WC.seq (WC.region (WL.asg rfl rfl rfl rfl rfl (WL.nil (WE.next (WC.ret (WE.ret1 rfl rfl ?_))))))))
     have hfin := hM76
     rw [htl] at hfin
     exact ⟨_, rfl, true, rfl, hC79, (fun _ => ⟨x.U, _, hRx, hP77, hfin, hA5, hE5, hz5⟩), (fun e => nomatch e)⟩
end Go.Proofs.Ythhgidliopohcaa

/- Parts are made the same: the document's program. -/
namespace Go.Proofs.Ythhgidliopohcaa
open Go.RowKit Go
set_option linter.unusedVariables false
set_option linter.unusedSimpArgs false
theorem PR.ofP {w : World} {g : Nat} {S : Nat → Prop} {bl bu : Option Addr × Nat × Nat} {la ua : Option Addr} {lc uc vb vc : Nat} {U : List Nat} {N : List Pt} {V : Nat → Nat} (h : PR w g S bl bu la lc N ua uc U vb vc V) (h0 : 0 < N.length) : ∃ (b : Nat) (A : Nat → Option Addr) (C : Nat → Nat), la = some ⟨b, 0, none⟩ ∧ obk la N.length lc = some b ∧
    ∀ k, k < N.length → w.cell? ⟨b, 0 + k * 2, none⟩ = some (.int .i64 (pget N k).fn) ∧ w.cell? ⟨b, 0 + k * 2 + 1, none⟩ = some (.slice (A k) (pget N k).args.length (C k)) ∧ InRow eltN S w (pget N k).args (A k) := by
  obtain ⟨b, e1, e2, h3⟩ := h.l.opn h0
  have key : ∀ k, k < N.length → ∃ p : Option Addr × Nat, w.cell? ⟨b, 0 + k * 2, none⟩ = some (.int .i64 (pget N k).fn) ∧ w.cell? ⟨b, 0 + k * 2 + 1, none⟩ = some (.slice p.1 (pget N k).args.length p.2) ∧ InRow eltN S w (pget N k).args p.1 := by
    intro k hk
    obtain ⟨cs, ⟨a', c', h4, h5⟩, h6⟩ := h3 k hk
    subst h4
    rw [pget_lt hk]
    exact ⟨(a', c'), h6 0 (by decide), h6 1 (by decide), h5⟩
  have : Inhabited (Option Addr × Nat) := ⟨(none, 0)⟩
  obtain ⟨F, hF⟩ := Go.Deep.choose_lt key
  exact ⟨b, fun k => (F k).1, fun k => (F k).2, e1, e2, hF⟩
end Go.Proofs.Ythhgidliopohcaa

/- What a part becomes is measured: the document's program. -/
namespace Go.Proofs.Ythhgidliopohcaa
open Go.RowKit Go
set_option linter.unusedVariables false
set_option linter.unusedSimpArgs false
/-- The cells of the row of parts. -/
def CP (w : World) (ob : Nat) (A : Nat → Option Addr) (C : Nat → Nat) (N : List Pt) : Prop := ∀ k, k < N.length → w.cell? ⟨ob, 0 + k * 2, none⟩ = some (.int .i64 (pget N k).fn) ∧ w.cell? ⟨ob, 0 + k * 2 + 1, none⟩ = some (.slice (A k) (pget N k).args.length (C k))
theorem CP.chg {w w' : World} {ob : Nat} {A : Nat → Option Addr} {C : Nat → Nat} {N : List Pt} {Z : Nat → Prop} (h : CP w ob A C N) (hc : Chg Z w w') (hb : ¬ Z ob) : CP w' ob A C N := fun k hk => ⟨chg_cell hc hb (h k hk).1, chg_cell hc hb (h k hk).2⟩
theorem CP.below {w w' : World} {ob : Nat} {A : Nat → Option Addr} {C : Nat → Nat} {N : List Pt} (h : CP w ob A C N) (hb : Below w.heap.size w w') : CP w' ob A C N := h.chg (Z := fun _ => False) (.ofBelow hb) id
end Go.Proofs.Ythhgidliopohcaa

/- A part is added: the program. -/
namespace Go.Proofs.Ythhgidliopohcaa
open Go.RowKit Go
set_option linter.unusedVariables false
set_option linter.unusedSimpArgs false
set_option maxRecDepth 100000 in
theorem padd_any (U : List Nat) (N : List Pt) (V : Nat → Nat) (g : Nat) (Z S2 : Nat → Prop) (x : Pt) (pa : Option Addr) (pc : Nat) (w : World) (h : NetX w g Z U N V) (hx : InRow eltN S2 w x.args pa) (hS2 : ∀ b, S2 b → ¬ Z b ∧ b < w.heap.size) (hn : N.length ≤ 1048576) :
  Calls Try.prog 56 #[.pointer (some ⟨g, 0, none⟩), .agg #[.int .i64 x.fn, .slice pa x.args.length pc]] w (Ret fun v' w' => v' = .int .i64 ((N.length : Nat) : Int) ∧ (∃ Z', NetX w' g Z' (U ++ [N.length]) (N ++ [x]) V ∧ ∀ b, Z' b → Z b ∨ S2 b ∨ w.heap.size ≤ b) ∧ Chg Z w w') := by
 obtain ⟨S, ua, uc, oa, oc, hP0, hZ, hZl⟩ := h
 have hUl := hP0.len
 have hgZ : Z g := hZ g (.inl rfl)
 have huZ : ∀ b, obk ua U.length uc = some b → Z b := fun b q => hZ b (.inr (.inl (by rw [← hUl]; exact q)))
 have hoZ : ∀ b, obk oa N.length oc = some b → Z b := fun b q => hZ b (.inr (.inr (.inl q)))
 have hsZ : ∀ b, S b → Z b := fun b q => hZ b (.inr (.inr (.inr q)))
 have hP := hP0.pg
 refine Calls.walk (l := [.pointer (some ⟨g, 0, none⟩), .agg #[.int .i64 x.fn, .slice pa x.args.length pc]]) Try.func56 rfl (by kernel_rfl) ?_
 refine WC.sub (K' := [(0, .pointer (some ⟨g, 0, none⟩)), (1, .agg #[.int .i64 x.fn, .slice pa x.args.length pc])]) ⟨rfl, rfl, trivial⟩ ?_
 refine WC.seq (WC.region ?_)
 refine WL.step (post := NewBlk w 57 #[.int .i64 x.fn, .slice pa x.args.length pc]) rfl rfl rfl (fun za zC zh zk => box_57 rfl (zh.ev rfl) (zk _ _ (newBlk _ _ _))) ?_
 rintro _ w1 ⟨g2, rfl, hg3, hB4, hb5, hz6⟩
 have hl7 : w.heap.size ≤ g2 := by omega
 refine WL.asg rfl rfl rfl rfl rfl (WL.nil (WE.next (WC.seq ?_)))
 have ho8 := hP.below hb5
 have hZlt : ∀ b, Z b → b < w1.heap.size := fun b q => Nat.lt_of_lt_of_le (hZl b q) hb5.size
 have hgbZ : ¬ Z g2 := fun q => by have z := hZl _ q; omega
 have hGV9 : ∀ (vals : List Value) (wa wb : World), Below wa.heap.size wa wb → (fun vals wz => match vals with | [] => PG wz g S (ua, U.length, uc) (oa, N.length, oc) ua uc U oa oc N V | [z0] => (PG wz g S (ua, U.length, uc) (oa, N.length, oc) ua uc U oa oc N V) ∧ ∃ g1, z0 = .slice (some ⟨g1, 0, none⟩) 1 1 ∧ Blk wz g1 3 #[.int .i64 ((N.length : Nat) : Int)] | [_, z1] => ∃ ra rc, z1 = .slice ra (U ++ [N.length]).length rc ∧ PG wz g S (ua, U.length, uc) (oa, N.length, oc) ra rc ((U ++ [N.length])) oa oc N V ∧ (∀ b, obk ra (U ++ [N.length]).length rc = some b → Z b ∨ w1.heap.size ≤ b) | [_, _, _] => ∃ ra rc, PG wz g S (ra, (U ++ [N.length]).length, rc) (oa, N.length, oc) ra rc ((U ++ [N.length])) oa oc N V ∧ (∀ b, obk ra (U ++ [N.length]).length rc = some b → Z b ∨ w1.heap.size ≤ b) | _ => False) vals wa → (fun vals wz => match vals with | [] => PG wz g S (ua, U.length, uc) (oa, N.length, oc) ua uc U oa oc N V | [z0] => (PG wz g S (ua, U.length, uc) (oa, N.length, oc) ua uc U oa oc N V) ∧ ∃ g1, z0 = .slice (some ⟨g1, 0, none⟩) 1 1 ∧ Blk wz g1 3 #[.int .i64 ((N.length : Nat) : Int)] | [_, z1] => ∃ ra rc, z1 = .slice ra (U ++ [N.length]).length rc ∧ PG wz g S (ua, U.length, uc) (oa, N.length, oc) ra rc ((U ++ [N.length])) oa oc N V ∧ (∀ b, obk ra (U ++ [N.length]).length rc = some b → Z b ∨ w1.heap.size ≤ b) | [_, _, _] => ∃ ra rc, PG wz g S (ra, (U ++ [N.length]).length, rc) (oa, N.length, oc) ra rc ((U ++ [N.length])) oa oc N V ∧ (∀ b, obk ra (U ++ [N.length]).length rc = some b → Z b ∨ w1.heap.size ≤ b) | _ => False) vals wb := by
  intro vals wa wb hb h
  match vals, h with
  | [], h => exact PG.below h hb
  | [z0], h =>
   obtain ⟨k1, g1, e, k2⟩ := h
   exact ⟨k1.below hb, g1, e, k2.below hb⟩
  | [_, z1], h =>
   obtain ⟨ra, rc, e, k1, k2⟩ := h
   exact ⟨ra, rc, e, k1.below hb, k2⟩
  | [_, _, _], h =>
   obtain ⟨ra, rc, k1, k2⟩ := h
   exact ⟨ra, rc, k1.below hb, k2⟩
 refine WC.seqV (S := ((fun b => b = g ∨ obk ua U.length uc = some b))) [(true, .val (.pointer (some ⟨g, 0, none⟩))), (true, .val (.pointer (some ⟨g, 0, none⟩))), (true, .val (.pointer (some ⟨g, 0, none⟩))), (true, .val (.pointer (some ⟨g, 0, none⟩))), (true, .val (.slice ua U.length uc)), (true, .val (.pointer (some ⟨g, 0, none⟩))), (true, .val (.pointer (some ⟨g, 0, none⟩))), (true, .val (.pointer (some ⟨g, 0, none⟩))), (true, .val (.slice ua U.length uc)), (true, .val (.int .i64 (((U.length : Nat) : Int)))), (true, .val undef), (true, .val undef), (true, .val (.pointer (some ⟨g, 0, none⟩))), (true, .val (.pointer (some ⟨g, 0, none⟩))), (true, .val undef)] [(0, .pointer (some ⟨g, 0, none⟩)), (1, .agg #[.int .i64 x.fn, .slice pa x.args.length pc]), (3, .pointer (some ⟨g2, 0, none⟩)), (4, .int .i64 0)] [10, 11, 14] [none, none, none] (fun vals wz => match vals with | [] => PG wz g S (ua, U.length, uc) (oa, N.length, oc) ua uc U oa oc N V | [z0] => (PG wz g S (ua, U.length, uc) (oa, N.length, oc) ua uc U oa oc N V) ∧ ∃ g1, z0 = .slice (some ⟨g1, 0, none⟩) 1 1 ∧ Blk wz g1 3 #[.int .i64 ((N.length : Nat) : Int)] | [_, z1] => ∃ ra rc, z1 = .slice ra (U ++ [N.length]).length rc ∧ PG wz g S (ua, U.length, uc) (oa, N.length, oc) ra rc ((U ++ [N.length])) oa oc N V ∧ (∀ b, obk ra (U ++ [N.length]).length rc = some b → Z b ∨ w1.heap.size ≤ b) | [_, _, _] => ∃ ra rc, PG wz g S (ra, (U ++ [N.length]).length, rc) (oa, N.length, oc) ra rc ((U ++ [N.length])) oa oc N V ∧ (∀ b, obk ra (U ++ [N.length]).length rc = some b → Z b ∨ w1.heap.size ≤ b) | _ => False) hGV9 (by decide) ⟨rfl, rfl, rfl, rfl, trivial⟩ (by kernel_rfl) (by kernel_rfl) (by kernel_rfl) (by kernel_rfl) ho8 ?_ ?_
 ·refine ⟨.inl ⟨rfl, true, .none rfl, (fun gg b h => by cases h), fun h w => optUndef h, fun zβ za zw zc => ?_⟩, ?_⟩
  ·exact wp_move rfl (zc.kn.ev rfl) ⟨_, rfl, Below.refl _ _, optDef zβ rfl⟩
  refine ⟨.inl ⟨rfl, true, .none rfl, (fun gg b h => by cases h), fun h w => optUndef h, fun zβ za zw zc => ?_⟩, ?_⟩
  ·exact wp_move rfl (zc.kn.ev rfl) ⟨_, rfl, Below.refl _ _, optDef zβ rfl⟩
  refine ⟨.inl ⟨rfl, true, .none rfl, (fun gg b h => by cases h), fun h w => optUndef h, fun zβ za zw zc => ?_⟩, ?_⟩
  ·exact nilCheck_ rfl ((evt za 6).trans (optSVal (zc.dep 1 6 (by kernel_rfl) (by decide)) rfl rfl)) ⟨_, rfl, Below.refl _ _, optDef zβ rfl⟩
  refine ⟨.inl ⟨rfl, true, .none rfl, (fun gg b h => by cases h), fun h w => optUndef h, fun zβ za zw zc => ?_⟩, ?_⟩
  ·exact fld_51_0 rfl ((evt za 7).trans (optSVal (zc.dep 2 7 (by kernel_rfl) (by decide)) rfl rfl)) ⟨_, rfl, Below.refl _ _, optDef zβ rfl⟩
  refine ⟨.inl ⟨rfl, true, .none rfl, (fun gg b h => by cases h), fun h w => optUndef h, fun zβ za zw zc => ?_⟩, ?_⟩
  ·obtain ⟨vals, hle, hgv, _⟩ := zc.early 2 14 rfl (by kernel_rfl)
   have zc0 : zw.cell? ⟨g, 0, none⟩ = some (.slice ua U.length uc) := by
    match vals, hle, hgv with
    | [], _, hg => exact hg.c0
    | [_], _, hg => exact hg.1.c0
    | [_, _], _, hg => (obtain ⟨ra, rc, e, k1, _⟩ := hg; exact k1.c0)
   exact ld_48 rfl ((evt za 8).trans (optSVal (zc.dep 3 8 (by kernel_rfl) (by decide)) rfl rfl)) zc0 ⟨_, rfl, Below.refl _ _, optDef zβ rfl⟩
  refine ⟨.inl ⟨rfl, true, .none rfl, (fun gg b h => by cases h), fun h w => optUndef h, fun zβ za zw zc => ?_⟩, ?_⟩
  ·exact wp_move rfl (zc.kn.ev rfl) ⟨_, rfl, Below.refl _ _, optDef zβ rfl⟩
  refine ⟨.inl ⟨rfl, true, .none rfl, (fun gg b h => by cases h), fun h w => optUndef h, fun zβ za zw zc => ?_⟩, ?_⟩
  ·exact nilCheck_ rfl ((evt za 10).trans (optSVal (zc.dep 5 10 (by kernel_rfl) (by decide)) rfl rfl)) ⟨_, rfl, Below.refl _ _, optDef zβ rfl⟩
  refine ⟨.inl ⟨rfl, true, .none rfl, (fun gg b h => by cases h), fun h w => optUndef h, fun zβ za zw zc => ?_⟩, ?_⟩
  ·exact fld_51_0 rfl ((evt za 11).trans (optSVal (zc.dep 6 11 (by kernel_rfl) (by decide)) rfl rfl)) ⟨_, rfl, Below.refl _ _, optDef zβ rfl⟩
  refine ⟨.inl ⟨rfl, true, .none rfl, (fun gg b h => by cases h), fun h w => optUndef h, fun zβ za zw zc => ?_⟩, ?_⟩
  ·obtain ⟨vals, hle, hgv, _⟩ := zc.early 2 14 rfl (by kernel_rfl)
   have zc0 : zw.cell? ⟨g, 0, none⟩ = some (.slice ua U.length uc) := by
    match vals, hle, hgv with
    | [], _, hg => exact hg.c0
    | [_], _, hg => exact hg.1.c0
    | [_, _], _, hg => (obtain ⟨ra, rc, e, k1, _⟩ := hg; exact k1.c0)
   exact ld_48 rfl ((evt za 12).trans (optSVal (zc.dep 7 12 (by kernel_rfl) (by decide)) rfl rfl)) zc0 ⟨_, rfl, Below.refl _ _, optDef zβ rfl⟩
  refine ⟨.inl ⟨rfl, true, .none rfl, (fun gg b h => by cases h), fun h w => optUndef h, fun zβ za zw zc => ?_⟩, ?_⟩
  ·exact len_48 rfl ((evt za 13).trans (optSVal (zc.dep 8 13 (by kernel_rfl) (by decide)) rfl rfl)) ⟨_, rfl, Below.refl _ _, optDef zβ rfl⟩
  refine ⟨.inr ⟨0, rfl, by kernel_rfl, true, .none rfl, (fun gg b h => by cases h), (fun h => (nomatch h)), fun zβ za zw zvals zc => ?_⟩, ?_⟩
  ·obtain rfl := vlen0 zc.len
   have zn := zc.now
   exact row_48_1 rfl (((evt za 14).trans (optSVal (zc.dep 9 14 (by kernel_rfl) (by decide)) rfl rfl)).trans (by rw [hUl])) ⟨_, rfl, .ofBelow (balloc _ _), ⟨zn.below (balloc _ _), _, rfl, Blk.new' rfl⟩, cvNo⟩
  refine ⟨.inr ⟨1, rfl, by kernel_rfl, true, .none rfl, (fun gg b h => by cases h), (fun h => (nomatch h)), fun zβ za zw zvals zc => ?_⟩, ?_⟩
  ·obtain ⟨z0, rfl⟩ := vlen1 zc.len
   have zn := zc.now
   obtain ⟨k1, g1, e, k2⟩ := zn
   have e0 : z0 = za.tmps.getD 15 undef := Option.some.inj (zc.val 0 10 15 rfl (by kernel_rfl))
   exact wp_appD (E := eltN) (y := N.length) (S2 := fun _ => False) (size := 1) (bytes := 8) (z := .int .i64 0) rfl Try.underlying48 (by kernel_rfl) rfl (by decide) rfl ((evt za 9).trans (optSVal (zc.dep 4 9 (by kernel_rfl) (by decide)) rfl rfl)) ((evt za 15).trans (e0.symm.trans e)) k1.up k2 rfl (fun b q => q.elim) (by omega) (by omega) (fun ra rc w' h1 h2 h3 => ⟨_, rfl, h2.mono (fun b q => .inr q), ⟨ra, rc, by rw [List.length_append]; rfl, k1.growU h1 h2 h3, fun b q => by rw [List.length_append] at q; exact (h3 b q).imp (huZ b) (fun z => Nat.le_trans zc.chg.size z)⟩, cvNo⟩)
  refine ⟨.inl ⟨rfl, true, .none rfl, (fun gg b h => by cases h), fun h w => optUndef h, fun zβ za zw zc => ?_⟩, ?_⟩
  ·exact nilCheck_ rfl ((evt za 5).trans (optSVal (zc.dep 0 5 (by kernel_rfl) (by decide)) rfl rfl)) ⟨_, rfl, Below.refl _ _, optDef zβ rfl⟩
  refine ⟨.inl ⟨rfl, true, .none rfl, (fun gg b h => by cases h), fun h w => optUndef h, fun zβ za zw zc => ?_⟩, ?_⟩
  ·exact fld_51_0 rfl ((evt za 17).trans (optSVal (zc.dep 12 17 (by kernel_rfl) (by decide)) rfl rfl)) ⟨_, rfl, Below.refl _ _, optDef zβ rfl⟩
  refine ⟨.inr ⟨2, rfl, by kernel_rfl, true, .none rfl, (fun gg b h => by cases h), (fun h => (nomatch h)), fun zβ za zw zvals zc => ?_⟩, ?_⟩
  ·obtain ⟨z0, z1, rfl⟩ := vlen2 zc.len
   have zn := zc.now
   obtain ⟨ra, rc, e, k1, k2⟩ := zn
   have e1 : z1 = za.tmps.getD 16 undef := Option.some.inj (zc.val 1 11 16 rfl (by kernel_rfl))
   exact st_48 rfl ((evt za 18).trans (optSVal (zc.dep 13 18 (by kernel_rfl) (by decide)) rfl rfl)) ((evt za 16).trans (e1.symm.trans e)) k1.blk k1.sz.1 (fun v => ⟨v, rfl, .ofUpd (Upd.at_ _ _ _ _) (.inl rfl), ⟨ra, rc, k1.store0, k2⟩, cvNo⟩)
  exact trivial
 ·intro za w9 zvals zh zl hG10 hc11 zu zw zk
  obtain ⟨z0, z1, z2, rfl⟩ := vlen3 zl
  obtain ⟨ra, rc, k19, hraZ⟩ := hG10
  have hq12 := Chg.mono (S' := Z) hc11 (fun b e => by rcases e with e | e; (rw [e]; exact hgZ); exact huZ b e)
  have hB13 := chg_blk hB4 hq12 hgbZ
  clear zu zw zk
  refine WE.go zh ?_
  refine WE.next (WC.seq ?_)
  have hs14 : Chg Z w w9 := (Chg.trans2 (Chg.trans2 (Chg.refl Z _) (Chg.ofBelow (S := fun k => k < 0) hb5) (fun i h1 h2 => by first | exact h2 | exact .inl ⟨h2, h1⟩ | exact .inl h2 | exact .inr h2 | exact .inr (.inl h2) | exact .inr (.inr h2) | ((try dsimp only at *); omega))) hq12 (fun i h1 h2 => by first | exact h2 | exact .inl ⟨h2, h1⟩ | exact .inl h2 | exact .inr h2 | exact .inr (.inl h2) | exact .inr (.inr h2) | ((try dsimp only at *); omega)))
  have hZlt2 : ∀ b, Z b → b < w9.heap.size := fun b q => Nat.lt_of_lt_of_le (hZl b q) (Nat.le_trans hb5.size hq12.size)
  have hws2 : w.heap.size ≤ w9.heap.size := (Nat.le_trans hb5.size hq12.size)
  have hwu2 : w1.heap.size ≤ w9.heap.size := hq12.size
  have hx2 : InRow eltN S2 w9 x.args pa := hx.chgS hs14 (fun b q => (hS2 b q).1)
  have hS2u : ∀ b, S2 b → b ≠ g ∧ b < w9.heap.size ∧ obk ra (U ++ [N.length]).length rc ≠ some b := fun b q => ⟨fun e => (hS2 b q).1 (e ▸ hgZ), by have z := (hS2 b q).2; omega, fun e => by rcases hraZ b e with z | z; exact (hS2 b q).1 z; (have z2 := (hS2 b q).2; have z3 : w.heap.size ≤ w1.heap.size := hb5.size; omega)⟩
  have hGW9 : ∀ (vals : List Value) (wa wb : World), Below wa.heap.size wa wb → (fun vals wz => match vals with | [] => (PG wz g S (ra, (U ++ [N.length]).length, rc) (oa, N.length, oc) ra rc ((U ++ [N.length])) oa oc N V) ∧ (∀ b, S2 b → b < wz.heap.size) ∧ InRow eltN S2 wz x.args pa | [z0] => (PG wz g S (ra, (U ++ [N.length]).length, rc) (oa, N.length, oc) ra rc ((U ++ [N.length])) oa oc N V) ∧ ((∀ b, S2 b → b < wz.heap.size) ∧ InRow eltN S2 wz x.args pa) ∧ ∃ g1, z0 = .slice (some ⟨g1, 0, none⟩) 1 1 ∧ Blk wz g1 57 (List.toArray [.int .i64 x.fn, .slice pa x.args.length pc]) | [_, z1] => ∃ pa3 pc3, z1 = .slice pa3 (N ++ [x]).length pc3 ∧ (∃ S3 : Nat → Prop, PG wz g S3 (ra, (U ++ [N.length]).length, rc) (oa, N.length, oc) ra rc (U ++ [N.length]) pa3 pc3 (N ++ [x]) V ∧ (∀ b, S3 b → S b ∨ S2 b)) ∧ (∀ b, obk pa3 (N ++ [x]).length pc3 = some b → Z b ∨ w9.heap.size ≤ b) | [_, _, _] => ∃ pa3 pc3, (∃ S3 : Nat → Prop, PG wz g S3 (ra, (U ++ [N.length]).length, rc) (pa3, (N ++ [x]).length, pc3) ra rc (U ++ [N.length]) pa3 pc3 (N ++ [x]) V ∧ (∀ b, S3 b → S b ∨ S2 b)) ∧ (∀ b, obk pa3 (N ++ [x]).length pc3 = some b → Z b ∨ w9.heap.size ≤ b) | _ => False) vals wa → (fun vals wz => match vals with | [] => (PG wz g S (ra, (U ++ [N.length]).length, rc) (oa, N.length, oc) ra rc ((U ++ [N.length])) oa oc N V) ∧ (∀ b, S2 b → b < wz.heap.size) ∧ InRow eltN S2 wz x.args pa | [z0] => (PG wz g S (ra, (U ++ [N.length]).length, rc) (oa, N.length, oc) ra rc ((U ++ [N.length])) oa oc N V) ∧ ((∀ b, S2 b → b < wz.heap.size) ∧ InRow eltN S2 wz x.args pa) ∧ ∃ g1, z0 = .slice (some ⟨g1, 0, none⟩) 1 1 ∧ Blk wz g1 57 (List.toArray [.int .i64 x.fn, .slice pa x.args.length pc]) | [_, z1] => ∃ pa3 pc3, z1 = .slice pa3 (N ++ [x]).length pc3 ∧ (∃ S3 : Nat → Prop, PG wz g S3 (ra, (U ++ [N.length]).length, rc) (oa, N.length, oc) ra rc (U ++ [N.length]) pa3 pc3 (N ++ [x]) V ∧ (∀ b, S3 b → S b ∨ S2 b)) ∧ (∀ b, obk pa3 (N ++ [x]).length pc3 = some b → Z b ∨ w9.heap.size ≤ b) | [_, _, _] => ∃ pa3 pc3, (∃ S3 : Nat → Prop, PG wz g S3 (ra, (U ++ [N.length]).length, rc) (pa3, (N ++ [x]).length, pc3) ra rc (U ++ [N.length]) pa3 pc3 (N ++ [x]) V ∧ (∀ b, S3 b → S b ∨ S2 b)) ∧ (∀ b, obk pa3 (N ++ [x]).length pc3 = some b → Z b ∨ w9.heap.size ≤ b) | _ => False) vals wb := by
   intro vals wa wb hb h
   match vals, h with
   | [], h => exact ⟨h.1.below hb, fun b q => Nat.lt_of_lt_of_le (h.2.1 b q) hb.size, h.2.2.below hb⟩
   | [z0], h =>
    obtain ⟨k1, k0, g1, e, k2⟩ := h
    exact ⟨k1.below hb, ⟨fun b q => Nat.lt_of_lt_of_le (k0.1 b q) hb.size, k0.2.below hb⟩, g1, e, k2.below hb⟩
   | [_, z1], h =>
    obtain ⟨ra, rc, e, ⟨S3, k1, k3⟩, k2⟩ := h
    exact ⟨ra, rc, e, ⟨S3, k1.below hb, k3⟩, k2⟩
   | [_, _, _], h =>
    obtain ⟨ra, rc, ⟨S3, k1, k3⟩, k2⟩ := h
    exact ⟨ra, rc, ⟨S3, k1.below hb, k3⟩, k2⟩
  refine WC.seqV (S := ((fun b => b = g ∨ obk oa N.length oc = some b))) [(true, .val (.pointer (some ⟨g, 0, none⟩))), (true, .val (.pointer (some ⟨g, 0, none⟩))), (true, .val (.pointer (some ⟨g, 0, none⟩))), (true, .val (.pointer (some ⟨g, 1, none⟩))), (true, .val (.slice oa N.length oc)), (true, .val (.agg #[.int .i64 x.fn, .slice pa x.args.length pc])), (true, .val undef), (true, .val undef), (true, .val (.pointer (some ⟨g, 0, none⟩))), (true, .val (.pointer (some ⟨g, 1, none⟩))), (true, .val undef)] [(0, .pointer (some ⟨g, 0, none⟩)), (1, .agg #[.int .i64 x.fn, .slice pa x.args.length pc]), (3, .pointer (some ⟨g2, 0, none⟩)), (4, .int .i64 0)] [6, 7, 10] [none, none, none] (fun vals wz => match vals with | [] => (PG wz g S (ra, (U ++ [N.length]).length, rc) (oa, N.length, oc) ra rc ((U ++ [N.length])) oa oc N V) ∧ (∀ b, S2 b → b < wz.heap.size) ∧ InRow eltN S2 wz x.args pa | [z0] => (PG wz g S (ra, (U ++ [N.length]).length, rc) (oa, N.length, oc) ra rc ((U ++ [N.length])) oa oc N V) ∧ ((∀ b, S2 b → b < wz.heap.size) ∧ InRow eltN S2 wz x.args pa) ∧ ∃ g1, z0 = .slice (some ⟨g1, 0, none⟩) 1 1 ∧ Blk wz g1 57 (List.toArray [.int .i64 x.fn, .slice pa x.args.length pc]) | [_, z1] => ∃ pa3 pc3, z1 = .slice pa3 (N ++ [x]).length pc3 ∧ (∃ S3 : Nat → Prop, PG wz g S3 (ra, (U ++ [N.length]).length, rc) (oa, N.length, oc) ra rc (U ++ [N.length]) pa3 pc3 (N ++ [x]) V ∧ (∀ b, S3 b → S b ∨ S2 b)) ∧ (∀ b, obk pa3 (N ++ [x]).length pc3 = some b → Z b ∨ w9.heap.size ≤ b) | [_, _, _] => ∃ pa3 pc3, (∃ S3 : Nat → Prop, PG wz g S3 (ra, (U ++ [N.length]).length, rc) (pa3, (N ++ [x]).length, pc3) ra rc (U ++ [N.length]) pa3 pc3 (N ++ [x]) V ∧ (∀ b, S3 b → S b ∨ S2 b)) ∧ (∀ b, obk pa3 (N ++ [x]).length pc3 = some b → Z b ∨ w9.heap.size ≤ b) | _ => False) hGW9 (by decide) ⟨rfl, rfl, rfl, rfl, trivial⟩ (by kernel_rfl) (by kernel_rfl) (by kernel_rfl) (by kernel_rfl) (⟨k19, fun b q => (hS2u b q).2.1, hx2⟩) ?_ ?_
  ·refine ⟨.inl ⟨rfl, true, .none rfl, (fun gg b h => by cases h), fun h w => optUndef h, fun zβ za zw zc => ?_⟩, ?_⟩
   ·exact wp_move rfl (zc.kn.ev rfl) ⟨_, rfl, Below.refl _ _, optDef zβ rfl⟩
   refine ⟨.inl ⟨rfl, true, .none rfl, (fun gg b h => by cases h), fun h w => optUndef h, fun zβ za zw zc => ?_⟩, ?_⟩
   ·exact wp_move rfl (zc.kn.ev rfl) ⟨_, rfl, Below.refl _ _, optDef zβ rfl⟩
   refine ⟨.inl ⟨rfl, true, .none rfl, (fun gg b h => by cases h), fun h w => optUndef h, fun zβ za zw zc => ?_⟩, ?_⟩
   ·exact nilCheck_ rfl ((evt za 20).trans (optSVal (zc.dep 1 20 (by kernel_rfl) (by decide)) rfl rfl)) ⟨_, rfl, Below.refl _ _, optDef zβ rfl⟩
   refine ⟨.inl ⟨rfl, true, .none rfl, (fun gg b h => by cases h), fun h w => optUndef h, fun zβ za zw zc => ?_⟩, ?_⟩
   ·exact fld_51_1 rfl ((evt za 21).trans (optSVal (zc.dep 2 21 (by kernel_rfl) (by decide)) rfl rfl)) ⟨_, rfl, Below.refl _ _, optDef zβ rfl⟩
   refine ⟨.inl ⟨rfl, true, .none rfl, (fun gg b h => by cases h), fun h w => optUndef h, fun zβ za zw zc => ?_⟩, ?_⟩
   ·obtain ⟨vals, hle, hgv, _⟩ := zc.early 2 10 rfl (by kernel_rfl)
    have zc0 : zw.cell? ⟨g, 0 + 1, none⟩ = some (.slice oa N.length oc) := by
     match vals, hle, hgv with
     | [], _, hg => exact hg.1.c1
     | [_], _, hg => exact hg.1.c1
     | [_, _], _, hg => (obtain ⟨ra, rc, e, ⟨S3, k1, _⟩, _⟩ := hg; exact k1.c1)
    exact ld_49 rfl ((evt za 22).trans (optSVal (zc.dep 3 22 (by kernel_rfl) (by decide)) rfl rfl)) zc0 ⟨_, rfl, Below.refl _ _, optDef zβ rfl⟩
   refine ⟨.inl ⟨rfl, true, .none rfl, (fun gg b h => by cases h), fun h w => optUndef h, fun zβ za zw zc => ?_⟩, ?_⟩
   ·exact ld_57 rfl (zc.kn.ev rfl) (chg_cell zc.chg (by first | (intro h9; apply hgbZ; rcases h9 with h9 | h9; (rw [h9]; exact hgZ); exact hoZ _ h9) | ((try dsimp only at *); omega)) ((hB13.cell 0).trans rfl)) (chg_cell zc.chg (by first | (intro h9; apply hgbZ; rcases h9 with h9 | h9; (rw [h9]; exact hgZ); exact hoZ _ h9) | ((try dsimp only at *); omega)) ((hB13.cell 1).trans rfl)) ⟨_, rfl, Below.refl _ _, optDef zβ rfl⟩
   refine ⟨.inr ⟨0, rfl, by kernel_rfl, true, .none rfl, (fun gg b h => by cases h), (fun h => (nomatch h)), fun zβ za zw zvals zc => ?_⟩, ?_⟩
   ·obtain rfl := vlen0 zc.len
    have zn := zc.now
    exact row_49_1 rfl ((evt za 24).trans (optSVal (zc.dep 5 24 (by kernel_rfl) (by decide)) rfl rfl)) ⟨_, rfl, .ofBelow (balloc _ _), ⟨zn.1.below (balloc _ _), ⟨fun b q => Nat.lt_of_lt_of_le (zn.2.1 b q) (balloc _ _).size, zn.2.2.below (balloc _ _)⟩, _, rfl, Blk.new' rfl⟩, cvNo⟩
   refine ⟨.inr ⟨1, rfl, by kernel_rfl, true, .none rfl, (fun gg b h => by cases h), (fun h => (nomatch h)), fun zβ za zw zvals zc => ?_⟩, ?_⟩
   ·obtain ⟨z0, rfl⟩ := vlen1 zc.len
    have zn := zc.now
    obtain ⟨k1, k0, g1, e, k2⟩ := zn
    have e0 : z0 = za.tmps.getD 25 undef := Option.some.inj (zc.val 0 6 25 rfl (by kernel_rfl))
    exact wp_appD (E := eltP) (y := x) (S2 := S2) (size := 2) (bytes := 32) (z := .agg #[.int .i64 0, .slice none 0 0]) rfl Try.underlying49 (by kernel_rfl) rfl (by decide) rfl ((evt za 23).trans (optSVal (zc.dep 4 23 (by kernel_rfl) (by decide)) rfl rfl)) ((evt za 25).trans (e0.symm.trans e)) k1.of k2 ⟨pa, pc, rfl, k0.2⟩ (fun b q q2 => (hS2 b q).1 (hoZ b q2)) (by omega) (by omega) (fun ra3 rc3 w' h1 h2 h3 => ⟨_, rfl, h2.mono (fun b q => .inr q), ⟨ra3, rc3, by rw [List.length_append]; rfl, ⟨_, k1.growO (fun b q => ⟨(hS2u b q).1, k0.1 b q, (hS2u b q).2.2⟩) h1 h2 h3, fun b q => q.1⟩, fun b q => by rw [List.length_append] at q; exact (h3 b q).imp (hoZ b) (fun z => Nat.le_trans zc.chg.size z)⟩, cvNo⟩)
   refine ⟨.inl ⟨rfl, true, .none rfl, (fun gg b h => by cases h), fun h w => optUndef h, fun zβ za zw zc => ?_⟩, ?_⟩
   ·exact nilCheck_ rfl ((evt za 19).trans (optSVal (zc.dep 0 19 (by kernel_rfl) (by decide)) rfl rfl)) ⟨_, rfl, Below.refl _ _, optDef zβ rfl⟩
   refine ⟨.inl ⟨rfl, true, .none rfl, (fun gg b h => by cases h), fun h w => optUndef h, fun zβ za zw zc => ?_⟩, ?_⟩
   ·exact fld_51_1 rfl ((evt za 27).trans (optSVal (zc.dep 8 27 (by kernel_rfl) (by decide)) rfl rfl)) ⟨_, rfl, Below.refl _ _, optDef zβ rfl⟩
   refine ⟨.inr ⟨2, rfl, by kernel_rfl, true, .none rfl, (fun gg b h => by cases h), (fun h => (nomatch h)), fun zβ za zw zvals zc => ?_⟩, ?_⟩
   ·obtain ⟨z0, z1, rfl⟩ := vlen2 zc.len
    have zn := zc.now
    obtain ⟨ra3, rc3, e, ⟨S3, k1, k3⟩, k2⟩ := zn
    have e1 : z1 = za.tmps.getD 26 undef := Option.some.inj (zc.val 1 7 26 rfl (by kernel_rfl))
    exact st_49 rfl ((evt za 28).trans (optSVal (zc.dep 9 28 (by kernel_rfl) (by decide)) rfl rfl)) ((evt za 26).trans (e1.symm.trans e)) k1.blk k1.sz.2 (fun v => ⟨v, rfl, .ofUpd (Upd.at_ _ _ _ _) (.inl rfl), ⟨ra3, rc3, ⟨S3, k1.store1, k3⟩, k2⟩, cvNo⟩)
   exact trivial
  ·intro za w15 zvals zh zl hG16 hc17 zu zw zk
   obtain ⟨z0, z1, z2, rfl⟩ := vlen3 zl
   obtain ⟨pa3, pc3, ⟨S3, k29, hS3⟩, hpaZ⟩ := hG16
   have hq18 := Chg.mono (S' := Z) hc17 (fun b e => by rcases e with e | e; (rw [e]; exact hgZ); exact hoZ b e)
   have hB19 := chg_blk hB13 hq18 hgbZ
   clear zu zw zk
   refine WE.go zh ?_
   refine WE.next (WC.seq (WC.region (WL.mv rfl rfl rfl rfl rfl ?_)))
   refine WL.val _ rfl rfl rfl (fun za zC zh zk => nilCheck_ rfl (zh.ev rfl) zk) ?_
   refine WL.val _ rfl rfl rfl (fun za zC zh zk => fld_51_0 rfl (zh.ev rfl) zk) ?_
   refine WL.val _ rfl rfl rfl (fun za zC zh zk => ld_48 rfl (zh.ev rfl) k29.c0 zk) ?_
   refine WL.val (.int .i64 ((((U ++ [N.length]).length : Nat) : Int))) rfl rfl rfl (fun za zC zh zk => len_48 rfl (zh.ev rfl) zk) ?_
   refine WL.val (.int .i64 (((N.length : Nat) : Int))) rfl rfl rfl (fun za zC zh zk => subb_3 rfl (zh.ev rfl) (zh.ev rfl) (wrap_eq (by rw [List.length_append]; show ((U.length + 1 : Nat) : Int) - 1 = _; omega) (by omega) (by omega)) zk) ?_
   refine WL.asg rfl rfl rfl rfl rfl (WL.nil (WE.next (WC.ret (WE.ret1 rfl rfl ?_))))
   have hs20 : Chg Z w w15 := (Chg.trans2 (Chg.trans2 (Chg.trans2 (Chg.refl Z _) (Chg.ofBelow (S := fun k => k < 0) hb5) (fun i h1 h2 => by first | exact h2 | exact .inl ⟨h2, h1⟩ | exact .inl h2 | exact .inr h2 | exact .inr (.inl h2) | exact .inr (.inr h2) | ((try dsimp only at *); omega))) hq12 (fun i h1 h2 => by first | exact h2 | exact .inl ⟨h2, h1⟩ | exact .inl h2 | exact .inr h2 | exact .inr (.inl h2) | exact .inr (.inr h2) | ((try dsimp only at *); omega))) hq18 (fun i h1 h2 => by first | exact h2 | exact .inl ⟨h2, h1⟩ | exact .inl h2 | exact .inr h2 | exact .inr (.inl h2) | exact .inr (.inr h2) | ((try dsimp only at *); omega)))
   have hUe : (U ++ [N.length]).length = (N ++ [x]).length := by rw [List.length_append, List.length_append, hUl]; rfl
   have hF := PG.pn k29 hUe
   refine ⟨_, rfl, rfl, ⟨fun b => (Z b ∨ S2 b ∨ w.heap.size ≤ b) ∧ b < w15.heap.size, ⟨S3, ra, rc, pa3, pc3, hF, fun b q => ⟨?_, hF.lt b q⟩, fun b q => q.2⟩, fun b q => q.1⟩, hs20⟩
   rcases q with q | q | q | q
   ·exact .inl (q ▸ hgZ)
   ·rw [← hUe] at q
    rcases hraZ b q with z | z
    ·exact .inl z
    ·exact .inr (.inr (Nat.le_trans hb5.size z))
   ·rcases hpaZ b q with z | z
    ·exact .inl z
    ·exact .inr (.inr (Nat.le_trans (Nat.le_trans hb5.size hq12.size) z))
   ·rcases hS3 b q with z | z
    ·exact .inl (hsZ b z)
    ·exact .inr (.inl z)
end Go.Proofs.Ythhgidliopohcaa

/- Terms whose variables have no arguments. -/
namespace Go.Proofs.Ythhgidliopohcaa
open Go.RowKit Go
set_option linter.unusedVariables false
set_option linter.unusedSimpArgs false
mutual
def T.plain : T → Bool
  | .mk f l => T.plainL l && (decide (0 ≤ f) || l.isEmpty)
def T.plainL : List T → Bool
  | [] => true
  | t :: r => t.plain && T.plainL r
end
end Go.Proofs.Ythhgidliopohcaa

/- Small terms: plain. -/
namespace Go.Proofs.Ythhgidliopohcaa
open Go.RowKit Go
set_option linter.unusedVariables false
set_option linter.unusedSimpArgs false
mutual
def T.dep : T → Nat
  | .mk _ l => T.depL l + 1
def T.depL : List T → Nat
  | [] => 0
  | t :: r => max t.dep (T.depL r)
end
mutual
def T.low (m : Int) : T → Bool
  | .mk f l => if f < 0 then decide (-m ≤ f) && decide (l.length = 0) else T.lowL m l
def T.lowL (m : Int) : List T → Bool
  | [] => true
  | t :: r => t.low m && T.lowL m r
end
def T.small (m : Int) (t : T) : Bool := decide (t.size ≤ 300) && decide (t.dep ≤ 30) && t.low m
theorem depL_snoc : ∀ (l : List T) (t : T), T.depL (l ++ [t]) = max (T.depL l) t.dep
  | [], t => by simp [T.depL]
  | x :: l, t => by rw [List.cons_append, T.depL, T.depL, depL_snoc l t, Nat.max_assoc]
theorem depL_take {l : List T} {k : Nat} (h : k < l.length) : T.depL (l.take (k + 1)) = max (T.depL (l.take k)) (tget l k).dep := by
  rw [List.take_succ_eq_append_getElem h, depL_snoc, tget_lt h]
theorem sizeL_snoc : ∀ (l : List T) (t : T), T.sizeL (l ++ [t]) = T.sizeL l + t.size
  | [], t => by simp [T.sizeL]
  | x :: l, t => by rw [List.cons_append, T.sizeL, T.sizeL, sizeL_snoc l t, Nat.add_assoc]
theorem sizeL_take1 {l : List T} {k : Nat} (h : k < l.length) : T.sizeL (l.take (k + 1)) = T.sizeL (l.take k) + (tget l k).size := by
  rw [List.take_succ_eq_append_getElem h, sizeL_snoc, tget_lt h]
mutual
theorem T.dep_le : ∀ t : T, t.dep ≤ t.size
  | .mk f l => by rw [T.dep, T.size]; have := T.depL_le l; omega
theorem T.depL_le : ∀ l : List T, T.depL l ≤ T.sizeL l
  | [] => Nat.le_refl _
  | t :: r => by rw [T.depL, T.sizeL]; have := T.dep_le t; have := T.depL_le r; omega
end
theorem depL_take_le {l : List T} {k : Nat} : T.depL (l.take k) ≤ T.sizeL l := by
  have h1 := T.depL_le (l.take k)
  have h2 : T.sizeL (l.take k) ≤ T.sizeL l := T.sizeL_take_le l k
  omega
theorem lowL_mem {m : Int} : ∀ {l : List T}, T.lowL m l = true ↔ ∀ t ∈ l, t.low m = true
  | [] => by simp [T.lowL]
  | t :: r => by rw [T.lowL, Bool.and_eq_true, lowL_mem (l := r)]; simp
theorem low_yes {m f : Int} {l : List T} (hf : ¬ f < 0) (h : ∀ i, i < l.length → (tget l i).low m = true) : (T.mk f l).low m = true := by
  rw [T.low, if_neg hf]
  refine lowL_mem.2 fun t ht => ?_
  obtain ⟨i, hi, rfl⟩ := List.getElem_of_mem ht
  have := h i hi
  rwa [tget_lt hi] at this
theorem low_no {m f : Int} {l : List T} {k : Nat} (hf : ¬ f < 0) (hk : k < l.length) (h : ¬ (tget l k).low m = true) : (T.mk f l).low m = false := by
  rw [T.low, if_neg hf, Bool.eq_false_iff]
  intro e
  exact h (lowL_mem.1 e _ (tget_mem hk))
mutual
/-- The variables of a term. -/
def T.hasV (v : Int) : T → Prop
  | .mk f l => (f < 0 ∧ v = -1 - f) ∨ T.hasVL v l
def T.hasVL (v : Int) : List T → Prop
  | [] => False
  | t :: r => t.hasV v ∨ T.hasVL v r
end
theorem hasVL_mem {v : Int} : ∀ {l : List T}, T.hasVL v l ↔ ∃ t ∈ l, t.hasV v
  | [] => by simp [T.hasVL]
  | t :: r => by rw [T.hasVL, hasVL_mem (l := r)]; simp
end Go.Proofs.Ythhgidliopohcaa

/- Copies of terms: the program and the document. -/
namespace Go.Proofs.Ythhgidliopohcaa
open Go.RowKit Go
set_option linter.unusedVariables false
set_option linter.unusedSimpArgs false
theorem len_le_sizeL (l : List T) : l.length ≤ T.sizeL l := by
  induction l with
  | nil => simp [T.sizeL]
  | cons t r ih => simp only [List.length_cons, T.sizeL]; have : 1 ≤ t.size := by rw [T.size_eq]; omega
                   omega
theorem take_snocT {l : List T} {k : Nat} (h : k < l.length) : l.take k ++ [tget l k] = l.take (k + 1) := by
  rw [List.take_succ_eq_append_getElem h, tget_lt h]
theorem size_at {l : List T} {k N : Nat} {f : Int} (h : k < l.length) (hz : (T.mk f l).size ≤ N) : (tget l k).size ≤ N := by
  have h1 := T.size_le_sizeL (tget_mem h)
  simp only [T.size] at hz
  omega
set_option maxRecDepth 100000 in
theorem rcopy_any : ∀ (t : T) (w : World) (v : Value), t.size ≤ 4294967296 → IsT w t v → Calls Try.prog 49 #[v] w (Ret fun v' w' => NewT w w' t v' ∧ Below w.heap.size w w') := by
  refine T.ind (fun f l ih => ?_)
  intro w v hz hv
  have hlen := len_le_sizeL l
  have hz' := hz
  simp only [T.size] at hz'
  obtain ⟨hf, a, c, rfl, hc, hm, hl⟩ := hv
  refine Calls.walk (l := [.agg #[.int .i64 f, .slice a l.length c]]) Try.func49 rfl (by kernel_rfl) ?_
  refine WC.sub (K' := [(0, .agg #[.int .i64 f, .slice a l.length c])]) ⟨rfl, trivial⟩ ?_
  refine WC.seq ?_
  refine WC.region ?_
  refine WL.step (post := NewBlk w 32 #[.int .i64 f, .slice a l.length c]) rfl rfl rfl (fun za zC zh zk => box_32 rfl (zh.ev rfl) (zk _ _ (newBlk _ _ _))) ?_
  rintro _ w1 ⟨g2, rfl, hg3, hB4, hb5, hz6⟩
  have hl7 : w.heap.size ≤ g2 := by omega
  refine WL.step (post := NewBlk w1 32 #[.int .i64 0, .slice none 0 0]) rfl rfl rfl (fun za zC zh zk => alloc_32 rfl (zk _ _ (newBlk _ _ _))) ?_
  rintro _ w8 ⟨g9, rfl, hg10, hB11, hb12, hz13⟩
  have hl14 : g2 < g9 := by have z1 := hB4.lt; omega
  have hl15 : w.heap.size ≤ g9 := by have z2 := (hb5).size; omega
  refine WL.nil ?_
  refine WE.next ?_
  refine WC.seq ?_
  refine WC.region ?_
  refine WL.val _ rfl rfl rfl (fun za zC zh zk => fld_32_0 rfl (zh.ev rfl) zk) ?_
  have hB16 := hB4.below hb12
  refine WL.val _ rfl rfl rfl (fun za zC zh zk => ld_3 rfl (zh.ev rfl) ((hB16.cell 0).trans rfl) zk) ?_
  refine WL.val (.agg #[.int .i64 f, .slice none 0 0]) rfl rfl rfl (fun za zC zh zk => build_32_0 rfl (zh.ev rfl) zk) ?_
  refine WL.step (post := NewBlk w8 32 #[.int .i64 0, .slice none 0 0]) rfl rfl rfl (fun za zC zh zk => alloc_32 rfl (zk _ _ (newBlk _ _ _))) ?_
  rintro _ w17 ⟨g18, rfl, hg19, hB20, hb21, hz22⟩
  have hl23 : g2 < g18 := by have z1 := hB16.lt; omega
  have hl24 : g9 < g18 := by have z1 := hB11.lt; omega
  have hb25 : Below w.heap.size w w8 := (bstep hb5 hb12)
  have hl26 : w.heap.size ≤ g18 := by have z2 := (hb25).size; omega
  refine WL.step (post := fun _ w' => Upd g18 w17 w' ∧ Blk w' g18 32 #[.int .i64 f, .slice none 0 0]) rfl rfl rfl (fun za zC zh zk => st_32 rfl (zh.ev rfl) (zh.ev rfl) rfl rfl hB20 (by first | decide | simp) (fun v => zk v _ ⟨(Upd.at_ _ _ _ _).trans (Upd.at_ _ _ _ _), (hB20.set_ 0 _).set_ 1 _⟩)) ?_
  rintro v30 w27 ⟨hu28, hB29⟩
  have hb31 : Below w.heap.size w w17 := (bstep hb25 hb21)
  have hb32 := upd_below hb31 hu28 (by omega)
  have hB33 := hB16.below hb21
  have hB34 := upd_blk hB33 hu28 (by omega)
  have hB35 := hB11.below hb21
  have hB36 := upd_blk hB35 hu28 (by omega)
  refine WL.nil ?_
  refine WE.next ?_
  refine WC.seq ?_
  refine WC.seq ?_
  refine WC.region ?_
  refine WL.asg rfl rfl rfl rfl rfl ?_
  refine WL.nil ?_
  refine WE.next ?_
  refine WC.block ?_
  have hl37 : g2 < w27.heap.size := by have z1 := hB34.lt; omega
  have hl38 : g9 < w27.heap.size := by have z1 := hB36.lt; omega
  have hl39 : g18 < w27.heap.size := by have z1 := hB29.lt; omega
  have hl40 : w.heap.size ≤ w27.heap.size := (hb32).size
  have hR41 : RowE eltT w27 w27.heap.size 32 none 0 0 [] := RowE.nil
  refine WC.loop (X := Option Addr × Nat × Nat) (fun x => l.length - x.2.2) (fun x => [(0, .agg #[.int .i64 f, .slice a l.length c]), (1, .pointer (some ⟨g2, 0, none⟩)), (2, .pointer (some ⟨g9, 0, none⟩)), (3, .pointer (some ⟨g18, 0, none⟩)), (4, .int .i64 (((x.2.2 : Nat) : Int)))]) (fun x w42 => x.2.2 ≤ l.length ∧ w27.heap.size ≤ (w42).heap.size ∧ Below w.heap.size w w42 ∧ Blk w42 g2 32 #[.int .i64 f, .slice a l.length c] ∧ Blk w42 g9 32 #[.int .i64 0, .slice none 0 0] ∧ Blk w42 g18 32 #[.int .i64 f, .slice x.1 x.2.2 x.2.1] ∧ RowE eltT (w42) w27.heap.size 32 x.1 x.2.1 x.2.2 (l.take x.2.2)) ((none, 0, 0)) ⟨rfl, rfl, rfl, rfl, rfl, trivial⟩ ?_ ?_
  · exact ⟨Nat.zero_le _, Nat.le_refl _, hb32, hB34, hB36, hB29, (by simpa using hR41)⟩
  · rintro x w42 ⟨hk, hBw, hb43, hB44, hB45, hB46, ho47⟩
    skip
    refine WC.seq ?_
    refine WC.seq ?_
    refine WC.region ?_
    refine WL.mv rfl rfl rfl rfl rfl ?_
    refine WL.val _ rfl rfl rfl (fun za zC zh zk => fld_32_1 rfl (zh.ev rfl) zk) ?_
    refine WL.val _ rfl rfl rfl (fun za zC zh zk => ld_30 rfl (zh.ev rfl) ((hB44.cell 1).trans rfl) zk) ?_
    refine WL.val (.int .i64 (((l.length : Nat) : Int))) rfl rfl rfl (fun za zC zh zk => len_30 rfl (zh.ev rfl) zk) ?_
    refine WL.val (.bool ((decide ((((x.2.2 : Nat) : Int) : Int) < (((l.length : Nat) : Int) : Int))))) rfl rfl rfl (fun za zC zh zk => lss_3 rfl (zh.ev rfl) (zh.ev rfl) zk) ?_
    refine WL.nil ?_
    refine WE.next ?_
    refine WC.cond rfl (fun h48 => ?_) (fun h48 => ?_)
    · have h48 : (((x.2.2 : Nat) : Int) : Int) < (((l.length : Nat) : Int) : Int) := by simpa using h48
      refine WC.skip ?_
      refine WE.next ?_
      refine WC.seq ?_
      refine WC.block ?_
      obtain ⟨b49, o50, A51, C52, ha53, hc54⟩ := IsTs.open hl
      have hSlt : ∀ b, (fun b => b = g18 ∨ (Value.slice x.1 x.2.2 x.2.1).ownBlock = some b) b → b < w42.heap.size := fun b h => h.elim (fun e => e ▸ hB46.lt) (fun h => (ho47.lt b h).2)
      have hSlo : ∀ b, (fun b => b = g18 ∨ (Value.slice x.1 x.2.2 x.2.1).ownBlock = some b) b → b = g18 ∨ (w27.heap.size ≤ b ∧ b < w42.heap.size) := fun b h => h.imp id (fun h => ho47.lt b h)
      have hBW : w27.heap.size ≤ w42.heap.size := by have z1 := hBw; omega
      have hlL : x.2.2 = ((l.take x.2.2)).length := ho47.len
      refine WC.tail2 (S := ((fun b => b = g18 ∨ (Value.slice x.1 x.2.2 x.2.1).ownBlock = some b))) [(true, .val (.pointer (some ⟨g18, 1, none⟩))), (true, .val (.slice x.1 x.2.2 x.2.1)), (true, .val (.pointer (some ⟨g2, 1, none⟩))), (true, .val (.slice a l.length c)), (true, .val (.int .i64 (((x.2.2 : Nat) : Int)))), (true, .val (.pointer (some ⟨b49, o50 + x.2.2 * 2, none⟩))), (true, .val (.agg #[.int .i64 ((tget l x.2.2).f), .slice ((A51 x.2.2)) ((tget l x.2.2).args.length) ((C52 x.2.2))])), (true, .mem (fun v w' => NewT w42 w' ((tget l x.2.2)) v) (fun v w w' hc h => InT.chg h hc (fun b hb hs => by have z := hSlt b hs; omega))), (true, .mem (fun v w' => OneRow eltT w42 32 ((tget l x.2.2)) v w') (fun v w w' hc h => h.chg hc hSlt)), (true, .val undef), (true, .val (.pointer (some ⟨g18, 1, none⟩))), (true, .val undef)] [(0, .agg #[.int .i64 f, .slice a l.length c]), (1, .pointer (some ⟨g2, 0, none⟩)), (2, .pointer (some ⟨g9, 0, none⟩)), (3, .pointer (some ⟨g18, 0, none⟩)), (4, .int .i64 (((x.2.2 : Nat) : Int))), (12, .bool ((decide ((((x.2.2 : Nat) : Int) : Int) < (((l.length : Nat) : Int) : Int)))))] 9 11 ((x.2.2 + 1)) 24 (fun ra rc wz => RowE eltT wz w27.heap.size 32 ra rc (x.2.2 + 1) ((l.take x.2.2 ++ [tget l x.2.2])) ∧ Blk wz g18 32 #[.int .i64 f, .slice x.1 x.2.2 x.2.1]) (fun ra rc wz => RowE eltT wz w27.heap.size 32 ra rc (x.2.2 + 1) ((l.take x.2.2 ++ [tget l x.2.2])) ∧ Blk wz g18 32 #[.int .i64 f, .slice ra ((x.2.2 + 1)) rc]) (by decide) (fun ra rc w w' hb h => ⟨h.1.below hb, h.2.below hb⟩) (fun ra rc w w' hb h => ⟨h.1.below hb, h.2.below hb⟩) ⟨rfl, rfl, rfl, rfl, rfl, rfl, trivial⟩ (by kernel_rfl) (by kernel_rfl) (by kernel_rfl) (by kernel_rfl) (by kernel_rfl) ?_ ?_
      · refine ⟨.inl ⟨rfl, true, .none rfl, (fun gg b h => by cases h), fun h w => optUndef h, fun zβ za zw zc => ?_⟩, ?_⟩
        · exact fld_32_1 rfl (zc.kn.ev rfl) ⟨_, rfl, Below.refl _ _, optDef zβ rfl⟩
        refine ⟨.inl ⟨rfl, true, .none rfl, (fun gg b h => by cases h), fun h w => optUndef h, fun zβ za zw zc => ?_⟩, ?_⟩
        · exact ld_30 rfl ((evt za 15).trans (optSVal (zc.dep 0 15 (by kernel_rfl) (by decide)) rfl rfl)) (bkeeps (zc.early (by kernel_rfl)) _ _ ((hB46.cell 1).trans rfl)) ⟨_, rfl, Below.refl _ _, optDef zβ rfl⟩
        refine ⟨.inl ⟨rfl, true, .none rfl, (fun gg b h => by cases h), fun h w => optUndef h, fun zβ za zw zc => ?_⟩, ?_⟩
        · exact fld_32_1 rfl (zc.kn.ev rfl) ⟨_, rfl, Below.refl _ _, optDef zβ rfl⟩
        refine ⟨.inl ⟨rfl, true, .none rfl, (fun gg b h => by cases h), fun h w => optUndef h, fun zβ za zw zc => ?_⟩, ?_⟩
        · exact ld_30 rfl ((evt za 17).trans (optSVal (zc.dep 2 17 (by kernel_rfl) (by decide)) rfl rfl)) (bkeeps (zc.early (by kernel_rfl)) _ _ ((hB44.cell 1).trans rfl)) ⟨_, rfl, Below.refl _ _, optDef zβ rfl⟩
        refine ⟨.inl ⟨rfl, true, .none rfl, (fun gg b h => by cases h), fun h w => optUndef h, fun zβ za zw zc => ?_⟩, ?_⟩
        · exact wp_move rfl (zc.kn.ev rfl) ⟨_, rfl, Below.refl _ _, optDef zβ rfl⟩
        refine ⟨.inl ⟨rfl, true, .none rfl, (fun gg b h => by cases h), fun h w => optUndef h, fun zβ za zw zc => ?_⟩, ?_⟩
        · exact ix_30 (k := x.2.2) rfl ((evt za 18).trans (optSVal (zc.dep 3 18 (by kernel_rfl) (by decide)) rfl rfl)) (ha53 x.2.2 (by first | omega | (simp; omega))) ((evt za 19).trans (optSVal (zc.dep 4 19 (by kernel_rfl) (by decide)) rfl rfl)) (by first | omega | (simp; omega)) ⟨_, rfl, Below.refl _ _, optDef zβ rfl⟩
        refine ⟨.inl ⟨rfl, true, .none rfl, (fun gg b h => by cases h), fun h w => optUndef h, fun zβ za zw zc => ?_⟩, ?_⟩
        · exact ld_32 rfl ((evt za 20).trans (optSVal (zc.dep 5 20 (by kernel_rfl) (by decide)) rfl rfl)) (bkeeps (bstep hb43 (zc.early (by kernel_rfl))) _ _ (hc54 x.2.2 (by first | omega | (simp; omega))).1) (bkeeps (bstep hb43 (zc.early (by kernel_rfl))) _ _ (hc54 x.2.2 (by first | omega | (simp; omega))).2.1) ⟨_, rfl, Below.refl _ _, optDef zβ rfl⟩
        refine ⟨.inl ⟨rfl, true, .none rfl, (fun gg b h => by cases h), fun h w => optUndef h, fun zβ za zw zc => ?_⟩, ?_⟩
        · exact wp_call (by kernel_rfl) rfl (hv1 ((evt za 21).trans (optSVal (zc.dep 6 21 (by kernel_rfl) (by decide)) rfl rfl))) (ih _ (tget_mem (by omega)) _ _ (size_at (by omega) hz) (IsT.below (bstep hb43 (zc.early (by kernel_rfl))) (hc54 x.2.2 (by first | omega | (simp; omega))).2.2)) (fun v w' h => ⟨v, rfl, h.2, optDef zβ (InT.mono (fun b hb _ => Nat.le_trans (zc.early (by kernel_rfl)).size hb) h.1)⟩)
        refine ⟨.inl ⟨rfl, true, .none rfl, (fun gg b h => by cases h), fun h w => optUndef h, fun zβ za zw zc => ?_⟩, ?_⟩
        · have zv := (optSMem (zc.dep 7 22 (by kernel_rfl) (by decide)) rfl rfl)
          obtain ⟨_, a1, c1, e1, _⟩ := zv.form
          rw [e1] at zv
          exact row_30_1 rfl ((evt za 22).trans e1) ⟨_, rfl, balloc _ _, optDef zβ ⟨_, _, rfl, zc.chg.size, Blk.new' rfl, _, _, rfl, zv.below (balloc _ _)⟩⟩
        refine ⟨.inr (.inl ⟨rfl, rfl, fun za zw zc => ?_⟩), ?_⟩
        · obtain ⟨g1, cs, e1, hg1, hB1, hin⟩ := (optSMem (zc.dep 8 23 (by kernel_rfl) (by decide)) rfl rfl)
          exact wp_appE (E := eltT) (size := 2) (bytes := 32) (z := .agg #[.int .i64 0, .slice none 0 0]) rfl Try.underlying30 (by kernel_rfl) rfl (by decide) rfl ((evt za 16).trans (optSVal (zc.dep 1 16 (by kernel_rfl) (by decide)) rfl rfl)) ((evt za 23).trans e1) (ho47.below zc.below) hB1 (eltT.mono (fun b hb _ => ⟨by omega, fun e => by have z := (ho47.lt b e).2; omega⟩) hin) (by omega) (by omega) (by have z := zc.below.size; omega) (fun ra rc w' h1 h2 _ => ⟨ra, rc, rfl, ⟨h1, chg_blk (hB46.below zc.below) h2 (fun e => by have z := (ho47.lt _ e).1; omega)⟩, h2.mono (fun b hb => .inr hb)⟩)
        refine ⟨.inl ⟨rfl, true, .none rfl, (fun gg b h => by cases h), fun h w => optUndef h, fun zβ za zw zc => ?_⟩, ?_⟩
        · exact fld_32_1 rfl (zc.kn.ev rfl) ⟨_, rfl, Below.refl _ _, optDef zβ rfl⟩
        refine ⟨.inr (.inr ⟨rfl, rfl, 24, by kernel_rfl, fun za zw ra rc zk zd zv zg => ?_⟩), ?_⟩
        · exact st_30 rfl ((evt za 25).trans (optSVal (zd 10 25 (by kernel_rfl) (by decide)) rfl rfl)) ((evt za 24).trans zv) zg.2 (by first | decide | simp) (fun v => ⟨v, rfl, ⟨zg.1.upd (Upd.at_ _ _ _ _) (by omega), zg.2.set_ 1 _⟩, .ofUpd (Upd.at_ _ _ _ _) (.inl rfl)⟩)
        exact trivial
      · intro za w55 ra58 rc59 zh zv hG56 hc57 zu
        have hb60 := chg_below hb43 hc57 (fun b hb => (fun h => by rcases hSlo _ h with h | h <;> omega))
        have hB61 := chg_blk hB44 hc57 (fun h => by rcases hSlo _ h with h | h <;> omega)
        have hB62 := chg_blk hB45 hc57 (fun h => by rcases hSlo _ h with h | h <;> omega)
        clear zu
        refine WE.go zh ?_
        refine WE.blockNormal ?_
        refine WE.next ?_
        refine WC.region ?_
        refine WL.mv rfl rfl rfl rfl rfl ?_
        refine WL.val (.int .i64 ((((x.2.2 + 1) : Nat) : Int))) rfl rfl rfl (fun za zC zh zk => addb_3 rfl (zh.ev rfl) (zh.ev rfl) (wrap_eq (by omega) (by omega) (by omega)) zk) ?_
        refine WL.asg rfl rfl rfl rfl rfl ?_
        refine WL.nil ?_
        refine WE.round ((ra58, rc59, x.2.2 + 1)) ⟨rfl, rfl, rfl, rfl, rfl, trivial⟩ ?_ ?_
        · exact ⟨by (try dsimp only at *); omega, (Nat.le_trans hBw hc57.size), hb60, hB61, hB62, hG56.2, (by rw [← take_snocT (by omega)]; exact hG56.1)⟩
        · dsimp only; omega
    · have h48 : ¬ ((((x.2.2 : Nat) : Int) : Int) < (((l.length : Nat) : Int) : Int)) := by simpa using h48
      refine WC.exit ?_
      refine WE.thenExit ?_
      refine WE.thenExit ?_
      refine WE.blockIs rfl ?_
      refine WE.next ?_
      refine WC.seq ?_
      refine WC.region ?_
      refine WL.val _ rfl rfl rfl (fun za zC zh zk => ld_32 rfl (zh.ev rfl) ((hB46.cell 0).trans rfl) ((hB46.cell 1).trans rfl) zk) ?_
      refine WL.step (post := fun _ w' => Upd g9 w42 w' ∧ Blk w' g9 32 #[.int .i64 f, .slice x.1 x.2.2 x.2.1]) rfl rfl rfl (fun za zC zh zk => st_32 rfl (zh.ev rfl) (zh.ev rfl) rfl rfl hB45 (by first | decide | simp) (fun v => zk v _ ⟨(Upd.at_ _ _ _ _).trans (Upd.at_ _ _ _ _), (hB45.set_ 0 _).set_ 1 _⟩)) ?_
      rintro v66 w63 ⟨hu64, hB65⟩
      have hb67 := upd_below hb43 hu64 (by omega)
      have hB68 := upd_blk hB44 hu64 (by omega)
      have hB69 := upd_blk hB46 hu64 (by omega)
      have ho70 := ho47.upd hu64 (by omega)
      refine WL.nil ?_
      refine WE.next ?_
      refine WC.ret ?_
      refine WE.retAny (v := .agg #[.int .i64 f, .slice x.1 x.2.2 x.2.1]) (fun za zh => ?_) ?_
      · have z0 : za.tmps[2]?.getD undef = .pointer (some ⟨g9, 0, none⟩) := by rw [← Array.getD_eq_getD_getElem?]; exact zh.knows 2 _ rfl
        have y0 : w63.cell? ⟨g9, 0, none⟩ = some (.int .i64 f) := ((hB65.cell 0).trans rfl)
        have y1 : w63.cell? ⟨g9, 1, none⟩ = some (.slice x.1 x.2.2 x.2.1) := ((hB65.cell 1).trans rfl)
        simp [results, Try.results49, z0, y0, y1, go_sem]
      · refine ⟨_, rfl, ?_, hb67⟩
        have z := ho70
        rw [List.take_of_length_le (by omega)] at z
        exact newT_row hf z (by omega)
set_option maxRecDepth 100000 in
theorem copy_any : ∀ (t : T) (w : World) (v : Value), t.size ≤ 4294967296 → IsT w t v → Calls Try.prog 50 #[v] w (Ret fun v' w' => NewT w w' t v' ∧ Below w.heap.size w w') := by
  refine T.ind (fun f l ih => ?_)
  intro w v hz hv
  have hlen := len_le_sizeL l
  have hz' := hz
  simp only [T.size] at hz'
  obtain ⟨hf, a, c, rfl, hc, hm, hl⟩ := hv
  refine Calls.walk (l := [.agg #[.int .i64 f, .slice a l.length c]]) Try.func50 rfl (by kernel_rfl) ?_
  refine WC.sub (K' := [(0, .agg #[.int .i64 f, .slice a l.length c])]) ⟨rfl, trivial⟩ ?_
  refine WC.seq ?_
  refine WC.region ?_
  refine WL.step (post := NewBlk w 32 #[.int .i64 f, .slice a l.length c]) rfl rfl rfl (fun za zC zh zk => box_32 rfl (zh.ev rfl) (zk _ _ (newBlk _ _ _))) ?_
  rintro _ w1 ⟨g2, rfl, hg3, hB4, hb5, hz6⟩
  have hl7 : w.heap.size ≤ g2 := by omega
  refine WL.step (post := NewBlk w1 32 #[.int .i64 0, .slice none 0 0]) rfl rfl rfl (fun za zC zh zk => alloc_32 rfl (zk _ _ (newBlk _ _ _))) ?_
  rintro _ w8 ⟨g9, rfl, hg10, hB11, hb12, hz13⟩
  have hl14 : g2 < g9 := by have z1 := hB4.lt; omega
  have hl15 : w.heap.size ≤ g9 := by have z2 := (hb5).size; omega
  refine WL.nil ?_
  refine WE.next ?_
  refine WC.seq ?_
  refine WC.region ?_
  refine WL.val _ rfl rfl rfl (fun za zC zh zk => fld_32_0 rfl (zh.ev rfl) zk) ?_
  have hB16 := hB4.below hb12
  refine WL.val _ rfl rfl rfl (fun za zC zh zk => ld_3 rfl (zh.ev rfl) ((hB16.cell 0).trans rfl) zk) ?_
  refine WL.val (.agg #[.int .i64 f, .slice none 0 0]) rfl rfl rfl (fun za zC zh zk => build_32_0 rfl (zh.ev rfl) zk) ?_
  refine WL.step (post := NewBlk w8 32 #[.int .i64 0, .slice none 0 0]) rfl rfl rfl (fun za zC zh zk => alloc_32 rfl (zk _ _ (newBlk _ _ _))) ?_
  rintro _ w17 ⟨g18, rfl, hg19, hB20, hb21, hz22⟩
  have hl23 : g2 < g18 := by have z1 := hB16.lt; omega
  have hl24 : g9 < g18 := by have z1 := hB11.lt; omega
  have hb25 : Below w.heap.size w w8 := (bstep hb5 hb12)
  have hl26 : w.heap.size ≤ g18 := by have z2 := (hb25).size; omega
  refine WL.step (post := fun _ w' => Upd g18 w17 w' ∧ Blk w' g18 32 #[.int .i64 f, .slice none 0 0]) rfl rfl rfl (fun za zC zh zk => st_32 rfl (zh.ev rfl) (zh.ev rfl) rfl rfl hB20 (by first | decide | simp) (fun v => zk v _ ⟨(Upd.at_ _ _ _ _).trans (Upd.at_ _ _ _ _), (hB20.set_ 0 _).set_ 1 _⟩)) ?_
  rintro v30 w27 ⟨hu28, hB29⟩
  have hb31 : Below w.heap.size w w17 := (bstep hb25 hb21)
  have hb32 := upd_below hb31 hu28 (by omega)
  have hB33 := hB16.below hb21
  have hB34 := upd_blk hB33 hu28 (by omega)
  have hB35 := hB11.below hb21
  have hB36 := upd_blk hB35 hu28 (by omega)
  refine WL.nil ?_
  refine WE.next ?_
  refine WC.seq ?_
  refine WC.seq ?_
  refine WC.region ?_
  refine WL.val _ rfl rfl rfl (fun za zC zh zk => fld_32_1 rfl (zh.ev rfl) zk) ?_
  refine WL.val _ rfl rfl rfl (fun za zC zh zk => ld_30 rfl (zh.ev rfl) ((hB34.cell 1).trans rfl) zk) ?_
  refine WL.val (.int .i64 (((l.length : Nat) : Int))) rfl rfl rfl (fun za zC zh zk => len_30 rfl (zh.ev rfl) zk) ?_
  refine WL.val (.bool ((decide ((0 : Int) < (((l.length : Nat) : Int) : Int))))) rfl rfl rfl (fun za zC zh zk => gtr_3 rfl (zh.ev rfl) (zh.ev rfl) zk) ?_
  refine WL.nil ?_
  refine WE.next ?_
  refine WC.cond rfl (fun h37 => ?_) (fun h37 => ?_)
  · have h37 : (0 : Int) < (((l.length : Nat) : Int) : Int) := by simpa using h37
    refine WC.region ?_
    refine WL.val _ rfl rfl rfl (fun za zC zh zk => fld_32_1 rfl (zh.ev rfl) zk) ?_
    refine WL.val _ rfl rfl rfl (fun za zC zh zk => ld_30 rfl (zh.ev rfl) ((hB34.cell 1).trans rfl) zk) ?_
    refine WL.val (.int .i64 (((l.length : Nat) : Int))) rfl rfl rfl (fun za zC zh zk => len_30 rfl (zh.ev rfl) zk) ?_
    refine WL.step (post := fun v w' => ∃ g, v = .slice (some ⟨g, 0, none⟩) l.length l.length ∧ w27.heap.size = g ∧ Blk w' g 32 (madeCells (Value.cells (.agg #[.int .i64 0, .slice none 0 0])) (l.length * 2)) ∧ Below w27.heap.size w27 w') rfl rfl rfl (fun za zC zh zk => wp_mkE (z := .agg #[.int .i64 0, .slice none 0 0]) (size := 2) (bytes := 32) Try.underlying30 (by kernel_rfl) (by decide) rfl (zh.ev rfl) (zh.ev rfl) (by omega) (zk _ _ ⟨_, rfl, rfl, Blk.new' rfl, balloc _ _⟩)) ?_
    rintro _ w38 ⟨g39, rfl, hg40, hB41, hb42⟩
    have hl44 : g2 < g39 := by have z1 := hB34.lt; omega
    have hl45 : g9 < g39 := by have z1 := hB36.lt; omega
    have hl46 : g18 < g39 := by have z1 := hB29.lt; omega
    have hl47 : w.heap.size ≤ g39 := by have z2 := (hb32).size; omega
    have hM43 : MRow eltT w38 g39 g39 32 l.length (madeCells (Value.cells (.agg #[.int .i64 0, .slice none 0 0])) (l.length * 2)).toList [] := MRow.startT hB41 (Nat.le_refl _)
    refine WL.val _ rfl rfl rfl (fun za zC zh zk => fld_32_1 rfl (zh.ev rfl) zk) ?_
    have hB48 := hB29.below hb42
    refine WL.step (post := fun _ w' => Upd g18 w38 w' ∧ Blk w' g18 32 #[.int .i64 f, .slice ((some ⟨g39, 0, none⟩)) l.length l.length]) rfl rfl rfl (fun za zC zh zk => st_30 rfl (zh.ev rfl) (zh.ev rfl) hB48 (by first | decide | simp) (fun v => zk v _ ⟨Upd.at_ _ _ _ _, hB48.set_ 1 _⟩)) ?_
    rintro v52 w49 ⟨hu50, hB51⟩
    have hb53 : Below w.heap.size w w38 := (bstep hb32 hb42)
    have hb54 := upd_below hb53 hu50 (by omega)
    have hB55 := hB34.below hb42
    have hB56 := upd_blk hB55 hu50 (by omega)
    have hB57 := hB36.below hb42
    have hB58 := upd_blk hB57 hu50 (by omega)
    have ho59 := hM43.upd hu50 (by omega)
    refine WL.nil ?_
    refine WE.next ?_
    refine WC.seq ?_
    refine WC.seq ?_
    refine WC.region ?_
    refine WL.val _ rfl rfl rfl (fun za zC zh zk => fld_32_1 rfl (zh.ev rfl) zk) ?_
    refine WL.val _ rfl rfl rfl (fun za zC zh zk => ld_30 rfl (zh.ev rfl) ((hB56.cell 1).trans rfl) zk) ?_
    refine WL.val (.int .i64 (((l.length : Nat) : Int))) rfl rfl rfl (fun za zC zh zk => len_30 rfl (zh.ev rfl) zk) ?_
    refine WL.mv rfl rfl rfl rfl rfl ?_
    refine WL.nil ?_
    refine WE.next ?_
    refine WC.block ?_
    refine WC.loop (X := Nat) (fun k => l.length - k) (fun k => [(0, .agg #[.int .i64 f, .slice a l.length c]), (1, .pointer (some ⟨g2, 0, none⟩)), (2, .pointer (some ⟨g9, 0, none⟩)), (3, .pointer (some ⟨g18, 0, none⟩)), (12, .bool ((decide ((0 : Int) < (((l.length : Nat) : Int) : Int))))), (19, .slice a l.length c), (20, .int .i64 (((l.length : Nat) : Int))), (21, .int .i64 (((k : Nat) : Int)))]) (fun k w60 => k ≤ l.length ∧ Below w.heap.size w w60 ∧ Blk w60 g2 32 #[.int .i64 f, .slice a l.length c] ∧ Blk w60 g9 32 #[.int .i64 0, .slice none 0 0] ∧ Blk w60 g18 32 #[.int .i64 f, .slice ((some ⟨g39, 0, none⟩)) l.length l.length] ∧ MRow eltT (w60) g39 g39 32 l.length (madeCells (Value.cells (.agg #[.int .i64 0, .slice none 0 0])) (l.length * 2)).toList (l.take k)) 0 ⟨rfl, rfl, rfl, rfl, rfl, rfl, rfl, rfl, trivial⟩ ?_ ?_
    · exact ⟨Nat.zero_le _, hb54, hB56, hB58, hB51, ho59⟩
    · rintro k w60 ⟨hk, hb61, hB62, hB63, hB64, ho65⟩
      have hgl := ho65.lt
      refine WC.seq ?_
      refine WC.region ?_
      refine WL.val (.bool ((decide ((((k : Nat) : Int) : Int) < (((l.length : Nat) : Int) : Int))))) rfl rfl rfl (fun za zC zh zk => lss_3 rfl (zh.ev rfl) (zh.ev rfl) zk) ?_
      refine WL.nil ?_
      refine WE.next ?_
      refine WC.seq ?_
      refine WC.cond rfl (fun h66 => ?_) (fun h66 => ?_)
      · have h66 : (((k : Nat) : Int) : Int) < (((l.length : Nat) : Int) : Int) := by simpa using h66
        refine WC.skip ?_
        refine WE.next ?_
        refine WC.seq ?_
        refine WC.block ?_
        refine WC.seq ?_
        refine WC.region ?_
        refine WL.mv rfl rfl rfl rfl rfl ?_
        obtain ⟨b67, o68, A69, C70, ha71, hc72⟩ := IsTs.open hl
        refine WL.val _ rfl rfl rfl (fun za zC zh zk => ix_30 (k := k) rfl (zh.ev rfl) (ha71 k (by first | omega | (simp; omega))) (zh.ev rfl) (by first | omega | (simp; omega)) zk) ?_
        refine WL.val _ rfl rfl rfl (fun za zC zh zk => ld_32 rfl (zh.ev rfl) (bkeeps hb61 _ _ (hc72 k (by first | omega | (simp; omega))).1) (bkeeps hb61 _ _ (hc72 k (by first | omega | (simp; omega))).2.1) zk) ?_
        refine WL.step (post := NewBlk w60 32 #[.int .i64 0, .slice none 0 0]) rfl rfl rfl (fun za zC zh zk => alloc_32 rfl (zk _ _ (newBlk _ _ _))) ?_
        rintro _ w73 ⟨g74, rfl, hg75, hB76, hb77, hz78⟩
        have hl79 : g2 < g74 := by have z1 := hB62.lt; omega
        have hl80 : g9 < g74 := by have z1 := hB63.lt; omega
        have hl81 : g18 < g74 := by have z1 := hB64.lt; omega
        have hl82 : w.heap.size ≤ g74 := by have z2 := (hb61).size; omega
        have hl83 : w60.heap.size ≤ g74 := by omega
        refine WL.asg rfl rfl rfl rfl rfl ?_
        refine WL.step (post := fun _ w' => Upd g74 w73 w' ∧ Blk w' g74 32 #[.int .i64 ((tget l k).f), .slice ((A69 k)) ((tget l k).args.length) ((C70 k))]) rfl rfl rfl (fun za zC zh zk => st_32 rfl (zh.ev rfl) (zh.ev rfl) rfl rfl hB76 (by first | decide | simp) (fun v => zk v _ ⟨(Upd.at_ _ _ _ _).trans (Upd.at_ _ _ _ _), (hB76.set_ 0 _).set_ 1 _⟩)) ?_
        rintro v87 w84 ⟨hu85, hB86⟩
        have hb88 : Below w.heap.size w w73 := (bstep hb61 hb77)
        have hb89 := upd_below hb88 hu85 (by omega)
        have hb90 := upd_below hb77 hu85 (by omega)
        have hB91 := hB62.below hb77
        have hB92 := upd_blk hB91 hu85 (by omega)
        have hB93 := hB63.below hb77
        have hB94 := upd_blk hB93 hu85 (by omega)
        have hB95 := hB64.below hb77
        have hB96 := upd_blk hB95 hu85 (by omega)
        refine WL.nil ?_
        refine WE.next ?_
        have ho97 := ho65.below hb90
        have hSlt : ∀ b, (fun b => b = g39) b → b < w84.heap.size := fun b e => e ▸ ho97.lt
        have hgl : g39 < w84.heap.size := ho97.lt
        refine WC.tail1 (S := ((fun b => b = g39))) [(true, .val (.pointer (some ⟨g18, 1, none⟩))), (true, .val (.slice ((some ⟨g39, 0, none⟩)) l.length l.length)), (true, .val (.int .i64 (((k : Nat) : Int)))), (true, .val (.agg #[.int .i64 ((tget l k).f), .slice ((A69 k)) ((tget l k).args.length) ((C70 k))])), (true, .mem (fun v w' => NewT w84 w' ((tget l k)) v) (fun v w w' hc h => InT.chg h hc (fun b hb hs => by have z := hSlt b hs; omega))), (true, .val (.pointer (some ⟨g39, 0 + k * 2, none⟩))), (true, .val undef)] [(0, .agg #[.int .i64 f, .slice a l.length c]), (1, .pointer (some ⟨g2, 0, none⟩)), (2, .pointer (some ⟨g9, 0, none⟩)), (3, .pointer (some ⟨g18, 0, none⟩)), (4, .int .i64 (((k : Nat) : Int))), (5, .pointer (some ⟨g74, 0, none⟩)), (12, .bool ((decide ((0 : Int) < (((l.length : Nat) : Int) : Int))))), (19, .slice a l.length c), (20, .int .i64 (((l.length : Nat) : Int))), (21, .int .i64 (((k : Nat) : Int))), (22, .bool ((decide ((((k : Nat) : Int) : Int) < (((l.length : Nat) : Int) : Int)))))] 6 (fun wz => MRow eltT wz g39 g39 32 l.length (madeCells (Value.cells (.agg #[.int .i64 0, .slice none 0 0])) (l.length * 2)).toList ((l.take k ++ [tget l k]))) (fun w w' hb h => h.below hb) ⟨rfl, rfl, rfl, rfl, rfl, rfl, rfl, rfl, rfl, rfl, rfl, trivial⟩ (by kernel_rfl) (by kernel_rfl) (by kernel_rfl) (by kernel_rfl) ?_ ?_
        · refine ⟨.inl ⟨rfl, true, .none rfl, (fun gg b h => by cases h), fun h w => optUndef h, fun zβ za zw zc => ?_⟩, ?_⟩
          · exact fld_32_1 rfl (zc.kn.ev rfl) ⟨_, rfl, Below.refl _ _, optDef zβ rfl⟩
          refine ⟨.inl ⟨rfl, true, .none rfl, (fun gg b h => by cases h), fun h w => optUndef h, fun zβ za zw zc => ?_⟩, ?_⟩
          · exact ld_30 rfl ((evt za 26).trans (optSVal (zc.dep 0 26 (by kernel_rfl) (by decide)) rfl rfl)) (bkeeps (zc.early (by kernel_rfl)) _ _ ((hB96.cell 1).trans rfl)) ⟨_, rfl, Below.refl _ _, optDef zβ rfl⟩
          refine ⟨.inl ⟨rfl, true, .none rfl, (fun gg b h => by cases h), fun h w => optUndef h, fun zβ za zw zc => ?_⟩, ?_⟩
          · exact wp_move rfl (zc.kn.ev rfl) ⟨_, rfl, Below.refl _ _, optDef zβ rfl⟩
          refine ⟨.inl ⟨rfl, true, .none rfl, (fun gg b h => by cases h), fun h w => optUndef h, fun zβ za zw zc => ?_⟩, ?_⟩
          · exact ld_32 rfl (zc.kn.ev rfl) (bkeeps (zc.early (by kernel_rfl)) _ _ ((hB86.cell 0).trans rfl)) (bkeeps (zc.early (by kernel_rfl)) _ _ ((hB86.cell 1).trans rfl)) ⟨_, rfl, Below.refl _ _, optDef zβ rfl⟩
          refine ⟨.inl ⟨rfl, true, .none rfl, (fun gg b h => by cases h), fun h w => optUndef h, fun zβ za zw zc => ?_⟩, ?_⟩
          · exact wp_call (by kernel_rfl) rfl (hv1 ((evt za 29).trans (optSVal (zc.dep 3 29 (by kernel_rfl) (by decide)) rfl rfl))) (ih _ (tget_mem (by omega)) _ _ (size_at (by omega) hz) (IsT.below (bstep hb89 (zc.early (by kernel_rfl))) (hc72 k (by first | omega | (simp; omega))).2.2)) (fun v w' h => ⟨v, rfl, h.2, optDef zβ (InT.mono (fun b hb _ => Nat.le_trans (zc.early (by kernel_rfl)).size hb) h.1)⟩)
          refine ⟨.inl ⟨rfl, true, .none rfl, (fun gg b h => by cases h), fun h w => optUndef h, fun zβ za zw zc => ?_⟩, ?_⟩
          · exact ix_30 (k := k) rfl ((evt za 27).trans (optSVal (zc.dep 1 27 (by kernel_rfl) (by decide)) rfl rfl)) rfl ((evt za 28).trans (optSVal (zc.dep 2 28 (by kernel_rfl) (by decide)) rfl rfl)) (by first | omega | (simp; omega)) ⟨_, rfl, Below.refl _ _, optDef zβ rfl⟩
          refine ⟨.inr ⟨rfl, rfl, fun za zw zc => ?_⟩, ?_⟩
          · have zv := (optSMem (zc.dep 4 30 (by kernel_rfl) (by decide)) rfl rfl)
            obtain ⟨_, a1, c1, e1, _⟩ := zv.form
            rw [e1] at zv
            have zm := ho97.below zc.below
            obtain ⟨cs, hB, hsz⟩ := zm.blkT (k := k) (by simp; omega) (by omega)
            exact st_32 rfl ((evt za 31).trans (optSVal (zc.dep 5 31 (by kernel_rfl) (by decide)) rfl rfl)) ((evt za 30).trans e1) rfl rfl hB hsz (fun v => ⟨v, rfl, zm.storeT (k := k) (by simp; omega) (by omega) (zv.mono (fun b hb _ => by (try dsimp only at *); omega)), .ofUpd ((Upd.at_ _ _ _ _).trans (Upd.at_ _ _ _ _)) rfl⟩)
          exact trivial
        · intro za w98 zh hG99 hc100 zu
          have hb101 := chg_below hb89 hc100 (fun b hb => (by (try dsimp only at *); omega))
          have hB102 := chg_blk hB92 hc100 (by (try dsimp only at *); omega)
          have hB103 := chg_blk hB94 hc100 (by (try dsimp only at *); omega)
          have hB104 := chg_blk hB96 hc100 (by (try dsimp only at *); omega)
          have hB105 := chg_blk hB86 hc100 (by (try dsimp only at *); omega)
          clear zu
          refine WE.go zh ?_
          refine WE.blockNormal ?_
          refine WE.next ?_
          refine WC.region ?_
          refine WL.val (.int .i64 ((((k + 1) : Nat) : Int))) rfl rfl rfl (fun za zC zh zk => addb_3 rfl (zh.ev rfl) (zh.ev rfl) (wrap_eq (by omega) (by omega) (by omega)) zk) ?_
          refine WL.mv rfl rfl rfl rfl rfl ?_
          refine WL.nil ?_
          refine WE.round (k + 1) ⟨rfl, rfl, rfl, rfl, rfl, rfl, rfl, rfl, trivial⟩ ?_ ?_
          · exact ⟨by omega, hb101, hB102, hB103, hB104, (by rw [← take_snocT (by omega)]; exact hG99)⟩
          · omega
      · have h66 : ¬ ((((k : Nat) : Int) : Int) < (((l.length : Nat) : Int) : Int)) := by simpa using h66
        refine WC.exit ?_
        refine WE.thenExit ?_
        refine WE.thenExit ?_
        refine WE.blockIs rfl ?_
        refine WE.next ?_
        refine WC.seq ?_
        refine WC.region ?_
        refine WL.val _ rfl rfl rfl (fun za zC zh zk => ld_32 rfl (zh.ev rfl) ((hB64.cell 0).trans rfl) ((hB64.cell 1).trans rfl) zk) ?_
        refine WL.step (post := fun _ w' => Upd g9 w60 w' ∧ Blk w' g9 32 #[.int .i64 f, .slice ((some ⟨g39, 0, none⟩)) l.length l.length]) rfl rfl rfl (fun za zC zh zk => st_32 rfl (zh.ev rfl) (zh.ev rfl) rfl rfl hB63 (by first | decide | simp) (fun v => zk v _ ⟨(Upd.at_ _ _ _ _).trans (Upd.at_ _ _ _ _), (hB63.set_ 0 _).set_ 1 _⟩)) ?_
        rintro v109 w106 ⟨hu107, hB108⟩
        have hb110 := upd_below hb61 hu107 (by omega)
        have hB111 := upd_blk hB62 hu107 (by omega)
        have hB112 := upd_blk hB64 hu107 (by omega)
        have ho113 := ho65.upd hu107 (by omega)
        refine WL.nil ?_
        refine WE.next ?_
        refine WC.ret ?_
        refine WE.retAny (v := .agg #[.int .i64 f, .slice ((some ⟨g39, 0, none⟩)) l.length l.length]) (fun za zh => ?_) ?_
        · have z0 : za.tmps[2]?.getD undef = .pointer (some ⟨g9, 0, none⟩) := by rw [← Array.getD_eq_getD_getElem?]; exact zh.knows 2 _ rfl
          have y0 : w106.cell? ⟨g9, 0, none⟩ = some (.int .i64 f) := ((hB108.cell 0).trans rfl)
          have y1 : w106.cell? ⟨g9, 1, none⟩ = some (.slice ((some ⟨g39, 0, none⟩)) l.length l.length) := ((hB108.cell 1).trans rfl)
          simp [results, Try.results50, z0, y0, y1, go_sem]
        · have z := ho113
          rw [List.take_of_length_le (by omega)] at z
          have hgz := (hb110).size
          exact ⟨_, rfl, newT_mk hf rfl (Nat.le_refl _) (by unfold maxLen; omega) (z.inRow.mono (by decide) (fun b hb _ => by omega)), hb110⟩
  · have h37 : ¬ ((0 : Int) < (((l.length : Nat) : Int) : Int)) := by simpa using h37
    refine WC.skip ?_
    refine WE.next ?_
    refine WC.seq ?_
    refine WC.seq ?_
    refine WC.region ?_
    refine WL.val _ rfl rfl rfl (fun za zC zh zk => fld_32_1 rfl (zh.ev rfl) zk) ?_
    refine WL.val _ rfl rfl rfl (fun za zC zh zk => ld_30 rfl (zh.ev rfl) ((hB34.cell 1).trans rfl) zk) ?_
    refine WL.val (.int .i64 (((l.length : Nat) : Int))) rfl rfl rfl (fun za zC zh zk => len_30 rfl (zh.ev rfl) zk) ?_
    refine WL.mv rfl rfl rfl rfl rfl ?_
    refine WL.nil ?_
    refine WE.next ?_
    refine WC.block ?_
    refine WC.loop (X := Unit) (fun _ => 0) (fun _ => [(0, .agg #[.int .i64 f, .slice a l.length c]), (1, .pointer (some ⟨g2, 0, none⟩)), (2, .pointer (some ⟨g9, 0, none⟩)), (3, .pointer (some ⟨g18, 0, none⟩)), (12, .bool ((decide ((0 : Int) < (((l.length : Nat) : Int) : Int))))), (19, .slice a l.length c), (20, .int .i64 (((l.length : Nat) : Int))), (21, .int .i64 0)]) (fun _ w114 => True ∧ Below w.heap.size w w114 ∧ Blk w114 g2 32 #[.int .i64 f, .slice a l.length c] ∧ Blk w114 g9 32 #[.int .i64 0, .slice none 0 0] ∧ Blk w114 g18 32 #[.int .i64 f, .slice none 0 0]) (()) ⟨rfl, rfl, rfl, rfl, rfl, rfl, rfl, rfl, trivial⟩ ?_ ?_
    · exact ⟨trivial, hb32, hB34, hB36, hB29⟩
    · rintro _ w114 ⟨_, hb115, hB116, hB117, hB118⟩
      refine WC.seq ?_
      refine WC.region ?_
      refine WL.val (.bool ((decide ((0 : Int) < (((l.length : Nat) : Int) : Int))))) rfl rfl rfl (fun za zC zh zk => lss_3 rfl (zh.ev rfl) (zh.ev rfl) zk) ?_
      refine WL.nil ?_
      refine WE.next ?_
      refine WC.seq ?_
      refine WC.condF rfl (decide_eq_false (by omega)) ?_
      refine WC.exit ?_
      refine WE.thenExit ?_
      refine WE.thenExit ?_
      refine WE.blockIs rfl ?_
      refine WE.next ?_
      refine WC.seq ?_
      refine WC.region ?_
      refine WL.val _ rfl rfl rfl (fun za zC zh zk => ld_32 rfl (zh.ev rfl) ((hB118.cell 0).trans rfl) ((hB118.cell 1).trans rfl) zk) ?_
      refine WL.step (post := fun _ w' => Upd g9 w114 w' ∧ Blk w' g9 32 #[.int .i64 f, .slice none 0 0]) rfl rfl rfl (fun za zC zh zk => st_32 rfl (zh.ev rfl) (zh.ev rfl) rfl rfl hB117 (by first | decide | simp) (fun v => zk v _ ⟨(Upd.at_ _ _ _ _).trans (Upd.at_ _ _ _ _), (hB117.set_ 0 _).set_ 1 _⟩)) ?_
      rintro v122 w119 ⟨hu120, hB121⟩
      have hb123 := upd_below hb115 hu120 (by omega)
      have hB124 := upd_blk hB116 hu120 (by omega)
      have hB125 := upd_blk hB118 hu120 (by omega)
      refine WL.nil ?_
      refine WE.next ?_
      refine WC.ret ?_
      refine WE.retAny (v := .agg #[.int .i64 f, .slice none 0 0]) (fun za zh => ?_) ?_
      · have z0 : za.tmps[2]?.getD undef = .pointer (some ⟨g9, 0, none⟩) := by rw [← Array.getD_eq_getD_getElem?]; exact zh.knows 2 _ rfl
        have y0 : w119.cell? ⟨g9, 0, none⟩ = some (.int .i64 f) := ((hB121.cell 0).trans rfl)
        have y1 : w119.cell? ⟨g9, 1, none⟩ = some (.slice none 0 0) := ((hB121.cell 1).trans rfl)
        simp [results, Try.results50, z0, y0, y1, go_sem]
      · have e : l = [] := List.length_eq_zero_iff.1 (by omega)
        subst e
        exact ⟨_, rfl, newT_leaf hf, hb123⟩
end Go.Proofs.Ythhgidliopohcaa

/- A term is put into the net: the program. -/
namespace Go.Proofs.Ythhgidliopohcaa
open Go.RowKit Go
set_option linter.unusedVariables false
set_option linter.unusedSimpArgs false
theorem vnum_lt {f : Int} (h : f < 0) (h2 : -96 ≤ f) : vnum f < 96 ∧ ((vnum f : Nat) : Int) = -1 - f := by unfold vnum; omega
theorem putL_take {l : List T} {k : Nat} {st : NS} (h : k < l.length) : T.putL (l.take (k + 1)) st = (((tget l k).put (T.putL (l.take k) st).1).1, (T.putL (l.take k) st).2 ++ [((tget l k).put (T.putL (l.take k) st).1).2]) := by
 rw [List.take_succ_eq_append_getElem h, putL_snoc, tget_lt h]
theorem putL_take_len {l : List T} {k : Nat} {st : NS} (h : NetOk st) (hk : k ≤ l.length) : (T.putL (l.take k) st).2.length = k := by rw [(putL_ok _ st h).2.2, List.length_take]; omega
set_option maxRecDepth 100000 in
theorem pput_any (w0 : World) (κ d : Nat → Nat) (g : Nat) : ∀ (t : T) (st : NS) (U : List Nat) (Z : Nat → Prop) (w : World) (b o : Nat) (a : Option Addr) (c : Nat), NetOk st → NetX w g Z U st.N st.V → Reps U κ d → (∀ i, st.N.length ≤ i → κ i = i) → st.N.length + t.size ≤ 1048576 → t.low 96 = true → Below w0.heap.size w0 w → (∀ b, Z b → w0.heap.size ≤ b) →
  w0.cell? ⟨b, o, none⟩ = some (.int .i64 t.f) → w0.cell? ⟨b, o + 1, none⟩ = some (.slice a t.args.length c) → IsT w0 t (.agg #[.int .i64 t.f, .slice a t.args.length c]) →
  Calls Try.prog 44 #[.pointer (some ⟨g, 0, none⟩), .pointer (some ⟨b, o, none⟩)] w (Ret fun v' w' => v' = .int .i64 (((t.put st).2 : Nat) : Int) ∧ NetJ w' w.heap.size Z κ d g (t.put st).1.N (t.put st).1.V (fun _ => False) ∧ Chg Z w w') := by
 refine T.ind (fun f l ih => ?_)
 intro st U Z w b o a c hst hN hR hκ hsz hlow hb0 hZ0 hcf0 hca0 hv
 have hlen := len_le_sizeL l
 have hz' := hsz
 simp only [T.size] at hz'
 simp only [T.f_mk, T.args_mk] at hcf0 hca0 hv
 have hrow := isT_row hv
 have hl := hrow.2.2.2
 have hfI := hrow.1
 unfold I64 at hfI
 have hgZ : Z g := hN.hg
 have hZl := hN.lt
 have hlow' := hlow
 rw [T.low] at hlow'
 have hf96 : f < 0 → -96 ≤ f := fun q => by rw [if_pos q] at hlow'; simp at hlow'; omega
 have hblt : b < w0.heap.size := World.block_lt_of_cell? _ _ hcf0
 have hJ0 : NetJ w w.heap.size Z κ d g st.N st.V (fun _ => False) := hN.j hR
 have hC0 := Chg.refl Z w
 refine Calls.walk (l := [.pointer (some ⟨g, 0, none⟩), .pointer (some ⟨b, o, none⟩)]) Try.func44 rfl (by kernel_rfl) ?_
 refine WC.sub (K' := [(0, .pointer (some ⟨g, 0, none⟩)), (1, .pointer (some ⟨b, o, none⟩))]) ⟨rfl, rfl, trivial⟩ ?_
 refine WC.seq (WC.region (WL.asg rfl rfl rfl rfl rfl (WL.nil (WE.next (WC.seq (WC.seq (WC.region (WL.mv rfl rfl rfl rfl rfl ?_))))))))
 refine WL.val _ rfl rfl rfl (fun za zC zh zk => nilCheck_ rfl (zh.ev rfl) zk) ?_
 refine WL.val _ rfl rfl rfl (fun za zC zh zk => fld_32_0 rfl (zh.ev rfl) zk) ?_
 have hc1 := bkeeps hb0 _ _ hcf0
 refine WL.val _ rfl rfl rfl (fun za zC zh zk => ld_3 rfl (zh.ev rfl) hc1 zk) ?_
 refine WL.val (.bool ((decide ((f : Int) < (0 : Int))))) rfl rfl rfl (fun za zC zh zk => lss_3 rfl (zh.ev rfl) (zh.ev rfl) zk) ?_
 refine WL.nil (WE.next ?_)
 refine WC.cond rfl (fun h2 => ?_) (fun h2 => ?_)
 ·have h2 : (f : Int) < (0 : Int) := by simpa using h2
  refine WC.seq ?_
  refine WC.opt [(true, .val (.pointer (some ⟨g, 0, none⟩))), (true, .val (.pointer (some ⟨b, o, none⟩))), (true, .val (.pointer (some ⟨b, o, none⟩))), (true, .val (.pointer (some ⟨b, o, none⟩))), (true, .val (.int .i64 f)), (true, .val (.int .i64 ((((vnum f) : Nat) : Int)))), (true, .val (.pointer (some ⟨g, 0, none⟩))), (true, .val (.pointer (some ⟨g, 2, none⟩))), (true, .val (.pointer (some ⟨g, 2 + (vnum f), none⟩))), (true, .val (.pointer (some ⟨g, 2 + (vnum f), none⟩)))] [(0, .pointer (some ⟨g, 0, none⟩)), (1, .pointer (some ⟨b, o, none⟩)), (4, .int .i64 0), (12, .bool ((decide ((f : Int) < (0 : Int)))))] ⟨rfl, rfl, rfl, rfl, trivial⟩ (by kernel_rfl) (by kernel_rfl) (by kernel_rfl) ?_ ?_
  ·refine ⟨⟨true, .none rfl, fun h w => optUndef h, fun zβ za zw zc => ?_⟩, ?_⟩
   ·exact wp_move rfl (zc.kn.ev rfl) ⟨_, rfl, Below.refl _ _, optDef zβ rfl⟩
   refine ⟨⟨true, .none rfl, fun h w => optUndef h, fun zβ za zw zc => ?_⟩, ?_⟩
   ·exact wp_move rfl (zc.kn.ev rfl) ⟨_, rfl, Below.refl _ _, optDef zβ rfl⟩
   refine ⟨⟨true, .none rfl, fun h w => optUndef h, fun zβ za zw zc => ?_⟩, ?_⟩
   ·exact nilCheck_ rfl ((evt za 14).trans (optVal (zc.dep 1 14 (by kernel_rfl)) rfl rfl)) ⟨_, rfl, Below.refl _ _, optDef zβ rfl⟩
   refine ⟨⟨true, .none rfl, fun h w => optUndef h, fun zβ za zw zc => ?_⟩, ?_⟩
   ·exact fld_32_0 rfl ((evt za 15).trans (optVal (zc.dep 2 15 (by kernel_rfl)) rfl rfl)) ⟨_, rfl, Below.refl _ _, optDef zβ rfl⟩
   refine ⟨⟨true, .none rfl, fun h w => optUndef h, fun zβ za zw zc => ?_⟩, ?_⟩
   ·exact ld_3 rfl ((evt za 16).trans (optVal (zc.dep 3 16 (by kernel_rfl)) rfl rfl)) (bkeeps zc.below _ _ hc1) ⟨_, rfl, Below.refl _ _, optDef zβ rfl⟩
   refine ⟨⟨true, .none rfl, fun h w => optUndef h, fun zβ za zw zc => ?_⟩, ?_⟩
   ·exact subb_3 rfl (zc.kn.ev rfl) ((evt za 17).trans (optVal (zc.dep 4 17 (by kernel_rfl)) rfl rfl)) (wrap_eq (by unfold vnum; omega) (by have z := (vnum_lt (by omega) (hf96 (by omega))).1; omega) (by have z := (vnum_lt (by omega) (hf96 (by omega))).1; omega)) ⟨_, rfl, Below.refl _ _, optDef zβ rfl⟩
   refine ⟨⟨true, .none rfl, fun h w => optUndef h, fun zβ za zw zc => ?_⟩, ?_⟩
   ·exact nilCheck_ rfl ((evt za 13).trans (optVal (zc.dep 0 13 (by kernel_rfl)) rfl rfl)) ⟨_, rfl, Below.refl _ _, optDef zβ rfl⟩
   refine ⟨⟨true, .none rfl, fun h w => optUndef h, fun zβ za zw zc => ?_⟩, ?_⟩
   ·exact fld_54_1 rfl ((evt za 19).trans (optVal (zc.dep 6 19 (by kernel_rfl)) rfl rfl)) ⟨_, rfl, Below.refl _ _, optDef zβ rfl⟩
   refine ⟨⟨true, .none rfl, fun h w => optUndef h, fun zβ za zw zc => ?_⟩, ?_⟩
   ·exact ixa_52 (k := vnum f) rfl ((evt za 20).trans (optVal (zc.dep 7 20 (by kernel_rfl)) rfl rfl)) ((evt za 18).trans (optVal (zc.dep 5 18 (by kernel_rfl)) rfl rfl)) (vnum_lt (by omega) (hf96 (by omega))).1 ⟨_, rfl, Below.refl _ _, optDef zβ rfl⟩
   refine ⟨⟨true, .none rfl, fun h w => optUndef h, fun zβ za zw zc => ?_⟩, ?_⟩
   ·exact wp_assign rfl ((evt za 21).trans (optVal (zc.dep 8 21 (by kernel_rfl)) rfl rfl)) ⟨_, rfl, Below.refl _ _, optDef zβ rfl⟩
   exact trivial
  ·intro za w3 zh hb4 zu
   have zh := zh.cons (d := 5) (v := .pointer (some ⟨g, 2 + (vnum f), none⟩)) (optVal (zu 9 5 (by kernel_rfl)) rfl rfl)
   clear zu
   refine WE.go zh ?_
   refine WE.next (WC.seq (WC.seq (WC.region (WL.mv rfl rfl rfl rfl rfl ?_))))
   refine WL.val _ rfl rfl rfl (fun za zC zh zk => nilCheck_ rfl (zh.ev rfl) zk) ?_
   have ho5 := hJ0.below hb4
   refine WL.val _ rfl rfl rfl (fun za zC zh zk => ld_3 rfl (zh.ev rfl) (ho5.cv (vnum_lt (by omega) (hf96 (by omega))).1) zk) ?_
   refine WL.val (.bool ((((((st.V (vnum f)) : Nat) : Int) : Int) == (0 : Int)))) rfl rfl rfl (fun za zC zh zk => eql_3 rfl (zh.ev rfl) (zh.ev rfl) zk) ?_
   refine WL.nil (WE.next ?_)
   refine WC.cond rfl (fun h6 => ?_) (fun h6 => ?_)
   ·have h6 : ((((st.V (vnum f)) : Nat) : Int) : Int) = (0 : Int) := by simpa using h6
    have hG49 : ∀ (vals : List Value) (wa wb : World), Below wa.heap.size wa wb → (fun vals wz => match vals with | [] => NetX wz g Z U st.N st.V | [_] => NetJ wz w.heap.size Z κ d g (st.N ++ [⟨f, []⟩]) st.V (fun _ => False) | [_, _] => NetJ wz w.heap.size Z κ d g (st.N ++ [⟨f, []⟩]) (NS.setV st.V (vnum f) (st.N.length + 1)) (fun _ => False) | _ => False) vals wa → (fun vals wz => match vals with | [] => NetX wz g Z U st.N st.V | [_] => NetJ wz w.heap.size Z κ d g (st.N ++ [⟨f, []⟩]) st.V (fun _ => False) | [_, _] => NetJ wz w.heap.size Z κ d g (st.N ++ [⟨f, []⟩]) (NS.setV st.V (vnum f) (st.N.length + 1)) (fun _ => False) | _ => False) vals wb := by
     intro vals wa wb hb h
     match vals, h with
     | [], h => exact NetX.below h hb
     | [_], h => exact NetJ.below h hb
     | [_, _], h => exact NetJ.below h hb
    have hc7 := bkeeps hb4 _ _ hc1
    refine WC.seqV (S := Z) [(true, .val (.pointer (some ⟨g, 2 + (vnum f), none⟩))), (true, .val (.pointer (some ⟨g, 0, none⟩))), (true, .val (.pointer (some ⟨g, 0, none⟩))), (true, .val (.pointer (some ⟨g, 0, none⟩))), (true, .val (.pointer (some ⟨b, o, none⟩))), (true, .val (.pointer (some ⟨b, o, none⟩))), (true, .val (.pointer (some ⟨b, o, none⟩))), (true, .val (.int .i64 f)), (true, .val (.agg #[.int .i64 f, .slice none 0 0])), (true, .val undef), (true, .val (.int .i64 ((((st.N.length + 1) : Nat) : Int)))), (true, .val (.pointer (some ⟨g, 2 + (vnum f), none⟩))), (true, .val undef)] [(0, .pointer (some ⟨g, 0, none⟩)), (1, .pointer (some ⟨b, o, none⟩)), (4, .int .i64 0), (5, .pointer (some ⟨g, 2 + (vnum f), none⟩)), (12, .bool ((decide ((f : Int) < (0 : Int))))), (25, .bool ((((((st.V (vnum f)) : Nat) : Int) : Int) == (0 : Int))))] [9, 12] [some (true, .int .i64 (((st.N.length : Nat) : Int))), none] (fun vals wz => match vals with | [] => NetX wz g Z U st.N st.V | [_] => NetJ wz w.heap.size Z κ d g (st.N ++ [⟨f, []⟩]) st.V (fun _ => False) | [_, _] => NetJ wz w.heap.size Z κ d g (st.N ++ [⟨f, []⟩]) (NS.setV st.V (vnum f) (st.N.length + 1)) (fun _ => False) | _ => False) hG49 (by decide) ⟨rfl, rfl, rfl, rfl, rfl, rfl, trivial⟩ (by kernel_rfl) (by kernel_rfl) (by kernel_rfl) (by kernel_rfl) ((hN.below hb4)) ?_ ?_
    ·refine ⟨.inl ⟨rfl, true, .none rfl, (fun gg b h => by cases h), fun h w => optUndef h, fun zβ za zw zc => ?_⟩, ?_⟩
     ·exact wp_move rfl (zc.kn.ev rfl) ⟨_, rfl, Below.refl _ _, optDef zβ rfl⟩
     refine ⟨.inl ⟨rfl, true, .none rfl, (fun gg b h => by cases h), fun h w => optUndef h, fun zβ za zw zc => ?_⟩, ?_⟩
     ·exact wp_move rfl (zc.kn.ev rfl) ⟨_, rfl, Below.refl _ _, optDef zβ rfl⟩
     refine ⟨.inl ⟨rfl, true, .none rfl, (fun gg b h => by cases h), fun h w => optUndef h, fun zβ za zw zc => ?_⟩, ?_⟩
     ·exact nilCheck_ rfl ((evt za 27).trans (optSVal (zc.dep 1 27 (by kernel_rfl) (by decide)) rfl rfl)) ⟨_, rfl, Below.refl _ _, optDef zβ rfl⟩
     refine ⟨.inl ⟨rfl, true, .none rfl, (fun gg b h => by cases h), fun h w => optUndef h, fun zβ za zw zc => ?_⟩, ?_⟩
     ·exact fld_54_0 rfl ((evt za 28).trans (optSVal (zc.dep 2 28 (by kernel_rfl) (by decide)) rfl rfl)) ⟨_, rfl, Below.refl _ _, optDef zβ rfl⟩
     refine ⟨.inl ⟨rfl, true, .none rfl, (fun gg b h => by cases h), fun h w => optUndef h, fun zβ za zw zc => ?_⟩, ?_⟩
     ·exact wp_move rfl (zc.kn.ev rfl) ⟨_, rfl, Below.refl _ _, optDef zβ rfl⟩
     refine ⟨.inl ⟨rfl, true, .none rfl, (fun gg b h => by cases h), fun h w => optUndef h, fun zβ za zw zc => ?_⟩, ?_⟩
     ·exact nilCheck_ rfl ((evt za 30).trans (optSVal (zc.dep 4 30 (by kernel_rfl) (by decide)) rfl rfl)) ⟨_, rfl, Below.refl _ _, optDef zβ rfl⟩
     refine ⟨.inl ⟨rfl, true, .none rfl, (fun gg b h => by cases h), fun h w => optUndef h, fun zβ za zw zc => ?_⟩, ?_⟩
     ·exact fld_32_0 rfl ((evt za 31).trans (optSVal (zc.dep 5 31 (by kernel_rfl) (by decide)) rfl rfl)) ⟨_, rfl, Below.refl _ _, optDef zβ rfl⟩
     refine ⟨.inl ⟨rfl, true, .none rfl, (fun gg b h => by cases h), fun h w => optUndef h, fun zβ za zw zc => ?_⟩, ?_⟩
     ·exact ld_3 rfl ((evt za 32).trans (optSVal (zc.dep 6 32 (by kernel_rfl) (by decide)) rfl rfl)) (chg_cell zc.chg (by intro h9; have z := hZ0 _ h9; omega) hc7) ⟨_, rfl, Below.refl _ _, optDef zβ rfl⟩
     refine ⟨.inl ⟨rfl, true, .none rfl, (fun gg b h => by cases h), fun h w => optUndef h, fun zβ za zw zc => ?_⟩, ?_⟩
     ·exact build_57_0 rfl ((evt za 33).trans (optSVal (zc.dep 7 33 (by kernel_rfl) (by decide)) rfl rfl)) ⟨_, rfl, Below.refl _ _, optDef zβ rfl⟩
     refine ⟨.inr ⟨0, rfl, by kernel_rfl, true, .none rfl, (fun gg b h => by cases h), (fun h => (nomatch h)), fun zβ za zw zvals zc => ?_⟩, ?_⟩
     ·obtain rfl := vlen0 zc.len
      have zn := zc.now
      exact wp_call (by kernel_rfl) rfl (hv2 ((evt za 29).trans (optSVal (zc.dep 3 29 (by kernel_rfl) (by decide)) rfl rfl)) ((evt za 34).trans (optSVal (zc.dep 8 34 (by kernel_rfl) (by decide)) rfl rfl))) (padd_any U st.N st.V g Z (fun _ => False) ⟨f, []⟩ none 0 _ zn InRow.nilN (fun b q => q.elim) (by omega)) (fun v w' h => by obtain ⟨k1, ⟨Z', k2, k3⟩, k4⟩ := h; exact ⟨v, rfl, k4, ⟨_, Z', by rw [← hN.len]; exact hR.push (by rw [hN.len]; exact hκ), k2, fun b q => by rcases k3 b q with z | z | z; exact .inl z; exact z.elim; exact .inr (by have z2 := zc.chg.size; have z3 := (hb4).size; omega), fun b q => q.elim⟩, cvIs k1⟩)
     refine ⟨.inl ⟨rfl, true, .none rfl, (fun gg b h => by cases h), fun h w => optUndef h, fun zβ za zw zc => ?_⟩, ?_⟩
     ·exact addb_3 rfl ((evt za 35).trans (zc.link 0 9 35 _ _ rfl (by kernel_rfl) rfl rfl)) (zc.kn.ev rfl) (wrap_eq (by omega) (by omega) (by omega)) ⟨_, rfl, Below.refl _ _, optDef zβ rfl⟩
     refine ⟨.inl ⟨rfl, true, .none rfl, (fun gg b h => by cases h), fun h w => optUndef h, fun zβ za zw zc => ?_⟩, ?_⟩
     ·exact nilCheck_ rfl ((evt za 26).trans (optSVal (zc.dep 0 26 (by kernel_rfl) (by decide)) rfl rfl)) ⟨_, rfl, Below.refl _ _, optDef zβ rfl⟩
     refine ⟨.inr ⟨1, rfl, by kernel_rfl, true, .none rfl, (fun gg b h => by cases h), (fun h => (nomatch h)), fun zβ za zw zvals zc => ?_⟩, ?_⟩
     ·obtain ⟨z0, rfl⟩ := vlen1 zc.len
      have zn := zc.now
      obtain ⟨U', Z', k1, k2, k3, k4⟩ := zn
      obtain ⟨⟨cs9, hB9, hs9⟩, k5⟩ := k2.setVr (v := vnum f) (x := st.N.length + 1) (vnum_lt (by omega) (hf96 (by omega))).1
      exact st_3 rfl ((evt za 37).trans (optSVal (zc.dep 11 37 (by kernel_rfl) (by decide)) rfl rfl)) ((evt za 36).trans (optSVal (zc.dep 10 36 (by kernel_rfl) (by decide)) rfl rfl)) hB9 hs9 (fun v => ⟨v, rfl, .ofUpd (Upd.at_ _ _ _ _) hgZ, ⟨U', Z', k1, k5, k3, k4⟩, cvNo⟩)
     exact trivial
    ·intro za w8 zvals zh zl hG9 hc10 zu zw zk
     obtain ⟨z0, z1, rfl⟩ := vlen2 zl
     have hC11 := Chg.trans (Chg.trans hC0 (.ofBelow hb4)) hc10
     have hb13 : Below w0.heap.size w0 w3 := (bstep hb0 hb4)
     have hb12 := chg_below hb13 hc10 (fun b hb h9 => by have z := hZ0 b h9; omega)
     clear zu zw zk
     refine WE.go zh ?_
     refine WE.next (WC.seq (WC.region (WL.mv rfl rfl rfl rfl rfl ?_)))
     refine WL.val _ rfl rfl rfl (fun za zC zh zk => nilCheck_ rfl (zh.ev rfl) zk) ?_
     refine WL.val _ rfl rfl rfl (fun za zC zh zk => ld_3 rfl (zh.ev rfl) (hG9.cv (vnum_lt (by omega) (hf96 (by omega))).1) zk) ?_
     refine WL.val (.int .i64 (((st.N.length : Nat) : Int))) rfl rfl rfl (fun za zC zh zk => subb_3 rfl (zh.ev rfl) (zh.ev rfl) (wrap_eq (by rw [show NS.setV st.V (vnum f) (st.N.length + 1) (vnum f) = st.N.length + 1 from if_pos rfl]; omega) (by omega) (by omega)) zk) ?_
     refine WL.asg rfl rfl rfl rfl rfl ?_
     refine WL.nil (WE.sub (K' := [(0, .pointer (some ⟨g, 0, none⟩)), (1, .pointer (some ⟨b, o, none⟩)), (4, .int .i64 (((st.N.length : Nat) : Int))), (5, .pointer (some ⟨g, 2 + (vnum f), none⟩)), (12, .bool ((decide ((f : Int) < (0 : Int))))), (25, .bool ((((((st.V (vnum f)) : Nat) : Int) : Int) == (0 : Int))))]) ⟨rfl, rfl, rfl, rfl, rfl, rfl, trivial⟩ ?_)
     refine WE.next (WC.ret (WE.thenRet (WE.ret1 rfl rfl ?_)))
     have e : (T.mk f l).put st = (⟨(st.N ++ [⟨f, []⟩]), (NS.setV st.V (vnum f) (st.N.length + 1))⟩, st.N.length) := by
      rw [T.put, if_pos (by omega)]; unfold NS.var; rw [if_neg (by omega)]
     rw [e]
     exact ⟨_, rfl, rfl, hG9, hC11⟩
   ·have h6 : ¬ (((((st.V (vnum f)) : Nat) : Int) : Int) = (0 : Int)) := by simpa using h6
    refine WC.skip (WE.next (WC.seq (WC.region (WL.mv rfl rfl rfl rfl rfl ?_))))
    refine WL.val _ rfl rfl rfl (fun za zC zh zk => nilCheck_ rfl (zh.ev rfl) zk) ?_
    refine WL.val _ rfl rfl rfl (fun za zC zh zk => ld_3 rfl (zh.ev rfl) (ho5.cv (vnum_lt (by omega) (hf96 (by omega))).1) zk) ?_
    refine WL.val (.int .i64 ((((st.V (vnum f) - 1) : Nat) : Int))) rfl rfl rfl (fun za zC zh zk => subb_3 rfl (zh.ev rfl) (zh.ev rfl) (wrap_eq (by omega) (by omega) (by have z := (hst.vars (vnum f)).1; omega)) zk) ?_
    refine WL.asg rfl rfl rfl rfl rfl (WL.nil (WE.next (WC.ret (WE.thenRet (WE.ret1 rfl rfl ?_)))))
    have hC14 := Chg.trans hC0 (.ofBelow hb4)
    have e : (T.mk f l).put st = (st, st.V (vnum f) - 1) := by
     rw [T.put, if_pos (by omega)]; unfold NS.var; rw [if_pos (by omega)]
    rw [e]
    exact ⟨_, rfl, rfl, ho5, hC14⟩
 ·have h2 : ¬ ((f : Int) < (0 : Int)) := by simpa using h2
  refine WC.skip (WE.next (WC.seq (WC.region (WL.mv rfl rfl rfl rfl rfl ?_))))
  refine WL.val _ rfl rfl rfl (fun za zC zh zk => nilCheck_ rfl (zh.ev rfl) zk) ?_
  refine WL.val _ rfl rfl rfl (fun za zC zh zk => fld_32_0 rfl (zh.ev rfl) zk) ?_
  refine WL.val _ rfl rfl rfl (fun za zC zh zk => ld_3 rfl (zh.ev rfl) hc1 zk) ?_
  refine WL.val (.agg #[.int .i64 f, .slice none 0 0]) rfl rfl rfl (fun za zC zh zk => build_57_0 rfl (zh.ev rfl) zk) ?_
  refine WL.step (post := NewBlk w 57 #[.int .i64 0, .slice none 0 0]) rfl rfl rfl (fun za zC zh zk => alloc_57 rfl (zk _ _ (newBlk _ _ _))) ?_
  rintro _ w15 ⟨g16, rfl, hg17, hB18, hb19, hz20⟩
  have hl21 : w0.heap.size ≤ g16 := by have z2 := (hb0).size; omega
  have hl22 : w.heap.size ≤ g16 := by omega
  refine WL.step (post := fun _ w' => Upd g16 w15 w' ∧ Blk w' g16 57 #[.int .i64 f, .slice none 0 0]) rfl rfl rfl (fun za zC zh zk => st_57 rfl (zh.ev rfl) (zh.ev rfl) rfl rfl hB18 (by first | decide | simp) (fun v => zk v _ ⟨(Upd.at_ _ _ _ _).trans (Upd.at_ _ _ _ _), (hB18.set_ 0 _).set_ 1 _⟩)) ?_
  rintro v26 w23 ⟨hu24, hB25⟩
  have hb27 : Below w0.heap.size w0 w15 := (bstep hb0 hb19)
  have hb28 := upd_below hb27 hu24 (by omega)
  have hb29 := upd_below hb19 hu24 (by omega)
  refine WL.nil (WE.next (WC.seq (WC.seq (WC.region (WL.mv rfl rfl rfl rfl rfl ?_)))))
  refine WL.val _ rfl rfl rfl (fun za zC zh zk => nilCheck_ rfl (zh.ev rfl) zk) ?_
  refine WL.val _ rfl rfl rfl (fun za zC zh zk => fld_32_1 rfl (zh.ev rfl) zk) ?_
  have hc30 := bkeeps hb28 _ _ hca0
  refine WL.val _ rfl rfl rfl (fun za zC zh zk => ld_30 rfl (zh.ev rfl) hc30 zk) ?_
  refine WL.val (.int .i64 (((l.length : Nat) : Int))) rfl rfl rfl (fun za zC zh zk => len_30 rfl (zh.ev rfl) zk) ?_
  refine WL.mv rfl rfl rfl rfl rfl (WL.nil (WE.next (WC.block ?_)))
  have hg6Z : ¬ Z g16 := fun q => by have z := hZl _ q; omega
  have hf0 : ¬ f < 0 := by omega
  have hlowL : ∀ q ∈ l, T.low 96 q = true := by rw [if_neg hf0] at hlow'; exact lowL_mem.1 hlow'
  have hJ1 : NetJ w23 w.heap.size Z κ d g (T.putL (l.take 0) st).1.N (T.putL (l.take 0) st).1.V (fun q => q = g16 ∨ obk none 0 0 = some q) := by
   have e : T.putL (l.take 0) st = (st, []) := rfl
   rw [e]
   exact ⟨U, Z, hR, hN.below hb29, fun b q => .inl q, fun b q h9 => by rcases q with q | q; (rw [q] at h9; exact hg6Z h9); cases q⟩
  have hr0 : RowD eltN (fun _ => False) w23 3 none 0 0 ((T.putL (l.take 0) st).2) := RowD.nil
  have hC31 := Chg.trans hC0 (.ofBelow hb29)
  have hg6w : w.heap.size ≤ g16 := by omega
  refine WC.loop (X := Nat × Option Addr × Nat) (fun x => l.length - x.1) (fun x => [(0, .pointer (some ⟨g, 0, none⟩)), (1, .pointer (some ⟨b, o, none⟩)), (4, .int .i64 0), (6, .pointer (some ⟨g16, 0, none⟩)), (12, .bool ((decide ((f : Int) < (0 : Int))))), (51, .int .i64 (((l.length : Nat) : Int))), (52, .int .i64 (((x.1 : Nat) : Int)))]) (fun x w32 => x.1 ≤ l.length ∧ Chg Z w w32 ∧ (∀ q, obk x.2.1 x.1 x.2.2 = some q → w.heap.size ≤ q) ∧ Below w0.heap.size w0 w32 ∧ Blk w32 g16 57 #[.int .i64 f, .slice x.2.1 x.1 x.2.2] ∧ NetJ (w32) w.heap.size Z κ d g ((T.putL (l.take x.1) st).1.N) ((T.putL (l.take x.1) st).1.V) (fun q => q = g16 ∨ obk x.2.1 x.1 x.2.2 = some q) ∧ RowD eltN (fun _ => False) (w32) 3 x.2.1 x.2.2 x.1 ((T.putL (l.take x.1) st).2)) ((0, none, 0)) ⟨rfl, rfl, rfl, rfl, rfl, rfl, rfl, trivial⟩ ?_ ?_
  ·exact ⟨Nat.zero_le _, hC31, (fun q h9 => nomatch h9), hb28, hB25, hJ1, hr0⟩
  ·rintro x w32 ⟨hk, hCx, hownw, hb33, hB34, ho35, ho36⟩
   have hlk : (T.putL (l.take x.1) st).2.length = x.1 := putL_take_len hst hk
   have hpo := (putL_ok (l.take x.1) st hst).1
   have hpl := hpo.len
   have hle9 := hpo.le
   have htk := T.sizeL_take_le l x.1
   have hg6x : w.heap.size ≤ g16 := hg6w
   refine WC.seq (WC.region ?_)
   refine WL.val (.bool ((decide ((((x.1 : Nat) : Int) : Int) < (((l.length : Nat) : Int) : Int))))) rfl rfl rfl (fun za zC zh zk => lss_3 rfl (zh.ev rfl) (zh.ev rfl) zk) ?_
   refine WL.nil (WE.next (WC.seq ?_))
   refine WC.cond rfl (fun h37 => ?_) (fun h37 => ?_)
   ·have h37 : (((x.1 : Nat) : Int) : Int) < (((l.length : Nat) : Int) : Int) := by simpa using h37
    refine WC.skip (WE.next (WC.seq (WC.block (WC.seq (WC.region (WL.mv rfl rfl rfl rfl rfl (WL.asg rfl rfl rfl rfl rfl (WL.nil (WE.next ?_)))))))))
    obtain ⟨U9, Z9, hR9, hN9, hZ9, hX9⟩ := ho35
    have hwW : w.heap.size ≤ w32.heap.size := hCx.size
    have hrlt := ho36.lt
    have hg6lt : g16 < w32.heap.size := hB34.lt
    have hrne : ∀ q, obk x.2.1 x.1 x.2.2 = some q → q ≠ g16 := fun q h9 => by have z := RowD.neBlk ho36 hB34 (by decide); exact fun e => z (e ▸ h9)
    have hmem9 : tget l x.1 ∈ l := tget_mem (by omega)
    have hsz9 := T.sizeL_take_succ l x.1 (by omega)
    have htg9 := tget_lt (show x.1 < l.length by omega)
    rw [← htg9] at hsz9
    have hst9 := T.sizeL_take_le l (x.1 + 1)
    have hown9 : ∀ q, obk x.2.1 x.1 x.2.2 = some q → ¬ q < w0.heap.size := fun q h9 => by have z := hownw q h9; have z2 := hb0.size; omega
    have hZ90 : ∀ q, Z9 q → w0.heap.size ≤ q := fun q h9 => by rcases hZ9 q h9 with z | z; exact hZ0 q z; (have z2 := hb0.size; omega)
    have hG10 : ∀ (vals : List Value) (wa wb : World), Below wa.heap.size wa wb → (fun vals wz => match vals with | [] => (NetX wz g Z9 U9 (T.putL (l.take x.1) st).1.N (T.putL (l.take x.1) st).1.V) ∧ (Blk wz g16 57 #[.int .i64 f, .slice x.2.1 x.1 x.2.2]) ∧ RowD eltN (fun _ => False) wz 3 x.2.1 x.2.2 x.1 ((T.putL (l.take x.1) st).2) | [_] => (NetJ wz w.heap.size Z κ d g ((tget l x.1).put (T.putL (l.take x.1) st).1).1.N ((tget l x.1).put (T.putL (l.take x.1) st).1).1.V (fun q => q = g16 ∨ obk x.2.1 x.1 x.2.2 = some q)) ∧ (Blk wz g16 57 #[.int .i64 f, .slice x.2.1 x.1 x.2.2]) ∧ RowD eltN (fun _ => False) wz 3 x.2.1 x.2.2 x.1 ((T.putL (l.take x.1) st).2) | [_, z1] => ((NetJ wz w.heap.size Z κ d g ((tget l x.1).put (T.putL (l.take x.1) st).1).1.N ((tget l x.1).put (T.putL (l.take x.1) st).1).1.V (fun q => q = g16 ∨ obk x.2.1 x.1 x.2.2 = some q)) ∧ (Blk wz g16 57 #[.int .i64 f, .slice x.2.1 x.1 x.2.2]) ∧ RowD eltN (fun _ => False) wz 3 x.2.1 x.2.2 x.1 ((T.putL (l.take x.1) st).2)) ∧ ∃ g1, z1 = .slice (some ⟨g1, 0, none⟩) 1 1 ∧ Blk wz g1 3 #[.int .i64 ((((tget l x.1).put (T.putL (l.take x.1) st).1).2 : Nat) : Int)] | [_, _, z2] => ∃ ra rc, z2 = .slice ra (x.1 + 1) rc ∧ (NetJ wz w.heap.size Z κ d g ((tget l x.1).put (T.putL (l.take x.1) st).1).1.N ((tget l x.1).put (T.putL (l.take x.1) st).1).1.V (fun q => q = g16 ∨ obk ra ((x.1 + 1)) rc = some q)) ∧ (Blk wz g16 57 #[.int .i64 f, .slice x.2.1 x.1 x.2.2]) ∧ (RowD eltN (fun _ => False) wz 3 ra rc ((x.1 + 1)) (((T.putL (l.take x.1) st).2 ++ [((tget l x.1).put (T.putL (l.take x.1) st).1).2]))) ∧ (∀ q, obk ra (x.1 + 1) rc = some q → w.heap.size ≤ q) | [_, _, _, _] => ∃ ra rc, (NetJ wz w.heap.size Z κ d g ((tget l x.1).put (T.putL (l.take x.1) st).1).1.N ((tget l x.1).put (T.putL (l.take x.1) st).1).1.V (fun q => q = g16 ∨ obk ra ((x.1 + 1)) rc = some q)) ∧ (Blk wz g16 57 #[.int .i64 f, .slice ra (x.1 + 1) rc]) ∧ (RowD eltN (fun _ => False) wz 3 ra rc ((x.1 + 1)) (((T.putL (l.take x.1) st).2 ++ [((tget l x.1).put (T.putL (l.take x.1) st).1).2]))) ∧ (∀ q, obk ra (x.1 + 1) rc = some q → w.heap.size ≤ q) | _ => False) vals wa → (fun vals wz => match vals with | [] => (NetX wz g Z9 U9 (T.putL (l.take x.1) st).1.N (T.putL (l.take x.1) st).1.V) ∧ (Blk wz g16 57 #[.int .i64 f, .slice x.2.1 x.1 x.2.2]) ∧ RowD eltN (fun _ => False) wz 3 x.2.1 x.2.2 x.1 ((T.putL (l.take x.1) st).2) | [_] => (NetJ wz w.heap.size Z κ d g ((tget l x.1).put (T.putL (l.take x.1) st).1).1.N ((tget l x.1).put (T.putL (l.take x.1) st).1).1.V (fun q => q = g16 ∨ obk x.2.1 x.1 x.2.2 = some q)) ∧ (Blk wz g16 57 #[.int .i64 f, .slice x.2.1 x.1 x.2.2]) ∧ RowD eltN (fun _ => False) wz 3 x.2.1 x.2.2 x.1 ((T.putL (l.take x.1) st).2) | [_, z1] => ((NetJ wz w.heap.size Z κ d g ((tget l x.1).put (T.putL (l.take x.1) st).1).1.N ((tget l x.1).put (T.putL (l.take x.1) st).1).1.V (fun q => q = g16 ∨ obk x.2.1 x.1 x.2.2 = some q)) ∧ (Blk wz g16 57 #[.int .i64 f, .slice x.2.1 x.1 x.2.2]) ∧ RowD eltN (fun _ => False) wz 3 x.2.1 x.2.2 x.1 ((T.putL (l.take x.1) st).2)) ∧ ∃ g1, z1 = .slice (some ⟨g1, 0, none⟩) 1 1 ∧ Blk wz g1 3 #[.int .i64 ((((tget l x.1).put (T.putL (l.take x.1) st).1).2 : Nat) : Int)] | [_, _, z2] => ∃ ra rc, z2 = .slice ra (x.1 + 1) rc ∧ (NetJ wz w.heap.size Z κ d g ((tget l x.1).put (T.putL (l.take x.1) st).1).1.N ((tget l x.1).put (T.putL (l.take x.1) st).1).1.V (fun q => q = g16 ∨ obk ra ((x.1 + 1)) rc = some q)) ∧ (Blk wz g16 57 #[.int .i64 f, .slice x.2.1 x.1 x.2.2]) ∧ (RowD eltN (fun _ => False) wz 3 ra rc ((x.1 + 1)) (((T.putL (l.take x.1) st).2 ++ [((tget l x.1).put (T.putL (l.take x.1) st).1).2]))) ∧ (∀ q, obk ra (x.1 + 1) rc = some q → w.heap.size ≤ q) | [_, _, _, _] => ∃ ra rc, (NetJ wz w.heap.size Z κ d g ((tget l x.1).put (T.putL (l.take x.1) st).1).1.N ((tget l x.1).put (T.putL (l.take x.1) st).1).1.V (fun q => q = g16 ∨ obk ra ((x.1 + 1)) rc = some q)) ∧ (Blk wz g16 57 #[.int .i64 f, .slice ra (x.1 + 1) rc]) ∧ (RowD eltN (fun _ => False) wz 3 ra rc ((x.1 + 1)) (((T.putL (l.take x.1) st).2 ++ [((tget l x.1).put (T.putL (l.take x.1) st).1).2]))) ∧ (∀ q, obk ra (x.1 + 1) rc = some q → w.heap.size ≤ q) | _ => False) vals wb := by
     intro vals wa wb hb h
     match vals, h with
     | [], h => exact ⟨h.1.below hb, h.2.1.below hb, h.2.2.below hb⟩
     | [_], h => exact ⟨h.1.below hb, h.2.1.below hb, h.2.2.below hb⟩
     | [_, z1], h =>
      obtain ⟨⟨k1, k2, k3⟩, g1, e, k4⟩ := h
      exact ⟨⟨k1.below hb, k2.below hb, k3.below hb⟩, g1, e, k4.below hb⟩
     | [_, _, z2], h =>
      obtain ⟨ra, rc, e, k1, k2, k3, k4⟩ := h
      exact ⟨ra, rc, e, k1.below hb, k2.below hb, k3.below hb, k4⟩
     | [_, _, _, _], h =>
      obtain ⟨ra, rc, k1, k2, k3, k4⟩ := h
      exact ⟨ra, rc, k1.below hb, k2.below hb, k3.below hb, k4⟩
    have hb9 : Below w0.heap.size w0 w32 := hb33
    have hc38 := bkeeps hb33 _ _ hca0
    obtain ⟨b39, o40, A41, C42, ha43, hc44⟩ := IsTs.open hl
    refine WC.seqV (S := ((fun q => Z9 q ∨ q = g16 ∨ obk x.2.1 x.1 x.2.2 = some q))) [(true, .val (.pointer (some ⟨g16, 1, none⟩))), (true, .val (.slice x.2.1 x.1 x.2.2)), (true, .val (.pointer (some ⟨g, 0, none⟩))), (true, .val (.pointer (some ⟨b, o, none⟩))), (true, .val (.pointer (some ⟨b, o, none⟩))), (true, .val (.pointer (some ⟨b, o + 1, none⟩))), (true, .val (.slice a l.length c)), (true, .val (.int .i64 (((x.1 : Nat) : Int)))), (true, .val (.pointer (some ⟨b39, o40 + x.1 * 2, none⟩))), (true, .val undef), (true, .val undef), (true, .val undef), (true, .val (.pointer (some ⟨g16, 1, none⟩))), (true, .val undef)] [(0, .pointer (some ⟨g, 0, none⟩)), (1, .pointer (some ⟨b, o, none⟩)), (4, .int .i64 0), (6, .pointer (some ⟨g16, 0, none⟩)), (7, .int .i64 (((x.1 : Nat) : Int))), (12, .bool ((decide ((f : Int) < (0 : Int))))), (51, .int .i64 (((l.length : Nat) : Int))), (52, .int .i64 (((x.1 : Nat) : Int))), (53, .bool ((decide ((((x.1 : Nat) : Int) : Int) < (((l.length : Nat) : Int) : Int)))))] [9, 10, 11, 13] [some (true, .int .i64 (((((tget l x.1).put (T.putL (l.take x.1) st).1).2 : Nat) : Int))), none, none, none] (fun vals wz => match vals with | [] => (NetX wz g Z9 U9 (T.putL (l.take x.1) st).1.N (T.putL (l.take x.1) st).1.V) ∧ (Blk wz g16 57 #[.int .i64 f, .slice x.2.1 x.1 x.2.2]) ∧ RowD eltN (fun _ => False) wz 3 x.2.1 x.2.2 x.1 ((T.putL (l.take x.1) st).2) | [_] => (NetJ wz w.heap.size Z κ d g ((tget l x.1).put (T.putL (l.take x.1) st).1).1.N ((tget l x.1).put (T.putL (l.take x.1) st).1).1.V (fun q => q = g16 ∨ obk x.2.1 x.1 x.2.2 = some q)) ∧ (Blk wz g16 57 #[.int .i64 f, .slice x.2.1 x.1 x.2.2]) ∧ RowD eltN (fun _ => False) wz 3 x.2.1 x.2.2 x.1 ((T.putL (l.take x.1) st).2) | [_, z1] => ((NetJ wz w.heap.size Z κ d g ((tget l x.1).put (T.putL (l.take x.1) st).1).1.N ((tget l x.1).put (T.putL (l.take x.1) st).1).1.V (fun q => q = g16 ∨ obk x.2.1 x.1 x.2.2 = some q)) ∧ (Blk wz g16 57 #[.int .i64 f, .slice x.2.1 x.1 x.2.2]) ∧ RowD eltN (fun _ => False) wz 3 x.2.1 x.2.2 x.1 ((T.putL (l.take x.1) st).2)) ∧ ∃ g1, z1 = .slice (some ⟨g1, 0, none⟩) 1 1 ∧ Blk wz g1 3 #[.int .i64 ((((tget l x.1).put (T.putL (l.take x.1) st).1).2 : Nat) : Int)] | [_, _, z2] => ∃ ra rc, z2 = .slice ra (x.1 + 1) rc ∧ (NetJ wz w.heap.size Z κ d g ((tget l x.1).put (T.putL (l.take x.1) st).1).1.N ((tget l x.1).put (T.putL (l.take x.1) st).1).1.V (fun q => q = g16 ∨ obk ra ((x.1 + 1)) rc = some q)) ∧ (Blk wz g16 57 #[.int .i64 f, .slice x.2.1 x.1 x.2.2]) ∧ (RowD eltN (fun _ => False) wz 3 ra rc ((x.1 + 1)) (((T.putL (l.take x.1) st).2 ++ [((tget l x.1).put (T.putL (l.take x.1) st).1).2]))) ∧ (∀ q, obk ra (x.1 + 1) rc = some q → w.heap.size ≤ q) | [_, _, _, _] => ∃ ra rc, (NetJ wz w.heap.size Z κ d g ((tget l x.1).put (T.putL (l.take x.1) st).1).1.N ((tget l x.1).put (T.putL (l.take x.1) st).1).1.V (fun q => q = g16 ∨ obk ra ((x.1 + 1)) rc = some q)) ∧ (Blk wz g16 57 #[.int .i64 f, .slice ra (x.1 + 1) rc]) ∧ (RowD eltN (fun _ => False) wz 3 ra rc ((x.1 + 1)) (((T.putL (l.take x.1) st).2 ++ [((tget l x.1).put (T.putL (l.take x.1) st).1).2]))) ∧ (∀ q, obk ra (x.1 + 1) rc = some q → w.heap.size ≤ q) | _ => False) hG10 (by decide) ⟨rfl, rfl, rfl, rfl, rfl, rfl, rfl, rfl, rfl, trivial⟩ (by kernel_rfl) (by kernel_rfl) (by kernel_rfl) (by kernel_rfl) (⟨hN9, hB34, ho36⟩) ?_ ?_
    ·refine ⟨.inl ⟨rfl, true, .none rfl, (fun gg b h => by cases h), fun h w => optUndef h, fun zβ za zw zc => ?_⟩, ?_⟩
     ·exact fld_57_1 rfl (zc.kn.ev rfl) ⟨_, rfl, Below.refl _ _, optDef zβ rfl⟩
     refine ⟨.inl ⟨rfl, true, .none rfl, (fun gg b h => by cases h), fun h w => optUndef h, fun zβ za zw zc => ?_⟩, ?_⟩
     ·obtain ⟨vals, hle, hgv, _⟩ := zc.early 2 11 rfl (by kernel_rfl)
      have zc0 : zw.cell? ⟨g16, 1, none⟩ = some (.slice x.2.1 x.1 x.2.2) := by
       match vals, hle, hgv with
       | [], _, hg => exact (hg.2.1.cell 1).trans rfl
       | [_], _, hg => exact (hg.2.1.cell 1).trans rfl
       | [_, _], _, hg => exact (hg.1.2.1.cell 1).trans rfl
      exact ld_48 rfl ((evt za 55).trans (optSVal (zc.dep 0 55 (by kernel_rfl) (by decide)) rfl rfl)) zc0 ⟨_, rfl, Below.refl _ _, optDef zβ rfl⟩
     refine ⟨.inl ⟨rfl, true, .none rfl, (fun gg b h => by cases h), fun h w => optUndef h, fun zβ za zw zc => ?_⟩, ?_⟩
     ·exact wp_move rfl (zc.kn.ev rfl) ⟨_, rfl, Below.refl _ _, optDef zβ rfl⟩
     refine ⟨.inl ⟨rfl, true, .none rfl, (fun gg b h => by cases h), fun h w => optUndef h, fun zβ za zw zc => ?_⟩, ?_⟩
     ·exact wp_move rfl (zc.kn.ev rfl) ⟨_, rfl, Below.refl _ _, optDef zβ rfl⟩
     refine ⟨.inl ⟨rfl, true, .none rfl, (fun gg b h => by cases h), fun h w => optUndef h, fun zβ za zw zc => ?_⟩, ?_⟩
     ·exact nilCheck_ rfl ((evt za 58).trans (optSVal (zc.dep 3 58 (by kernel_rfl) (by decide)) rfl rfl)) ⟨_, rfl, Below.refl _ _, optDef zβ rfl⟩
     refine ⟨.inl ⟨rfl, true, .none rfl, (fun gg b h => by cases h), fun h w => optUndef h, fun zβ za zw zc => ?_⟩, ?_⟩
     ·exact fld_32_1 rfl ((evt za 59).trans (optSVal (zc.dep 4 59 (by kernel_rfl) (by decide)) rfl rfl)) ⟨_, rfl, Below.refl _ _, optDef zβ rfl⟩
     refine ⟨.inl ⟨rfl, true, .none rfl, (fun gg b h => by cases h), fun h w => optUndef h, fun zβ za zw zc => ?_⟩, ?_⟩
     ·exact ld_30 rfl ((evt za 60).trans (optSVal (zc.dep 5 60 (by kernel_rfl) (by decide)) rfl rfl)) (chg_cell zc.chg (by intro h9; rcases h9 with h9 | h9 | h9; (have z := hZ90 _ h9; omega); omega; exact hown9 _ h9 hblt) hc38) ⟨_, rfl, Below.refl _ _, optDef zβ rfl⟩
     refine ⟨.inl ⟨rfl, true, .none rfl, (fun gg b h => by cases h), fun h w => optUndef h, fun zβ za zw zc => ?_⟩, ?_⟩
     ·exact wp_move rfl (zc.kn.ev rfl) ⟨_, rfl, Below.refl _ _, optDef zβ rfl⟩
     refine ⟨.inl ⟨rfl, true, .none rfl, (fun gg b h => by cases h), fun h w => optUndef h, fun zβ za zw zc => ?_⟩, ?_⟩
     ·exact ix_30 (k := x.1) rfl ((evt za 61).trans (optSVal (zc.dep 6 61 (by kernel_rfl) (by decide)) rfl rfl)) (ha43 x.1 (by first | omega | (simp; omega))) ((evt za 62).trans (optSVal (zc.dep 7 62 (by kernel_rfl) (by decide)) rfl rfl)) (by first | omega | (simp; omega)) ⟨_, rfl, Below.refl _ _, optDef zβ rfl⟩
     refine ⟨.inr ⟨0, rfl, by kernel_rfl, true, .none rfl, (fun gg b h => by cases h), (fun h => (nomatch h)), fun zβ za zw zvals zc => ?_⟩, ?_⟩
     ·obtain rfl := vlen0 zc.len
      have zn := zc.now
      obtain ⟨k1, k2, k3⟩ := zn
      have hbz := chg_below hb9 zc.chg (fun q hq h9 => by rcases h9 with h9 | h9 | h9; (have z := hZ90 q h9; omega); (have z := hb0.size; omega); exact hown9 q h9 hq)
      exact wp_call (by kernel_rfl) rfl (hv2 ((evt za 57).trans (optSVal (zc.dep 2 57 (by kernel_rfl) (by decide)) rfl rfl)) ((evt za 63).trans (optSVal (zc.dep 8 63 (by kernel_rfl) (by decide)) rfl rfl))) (ih _ hmem9 (T.putL (l.take x.1) st).1 U9 Z9 _ b39 (o40 + x.1 * 2) _ _ hpo.ok k1 hR9 (fun i hi => hκ i (by omega)) (by omega) (hlowL _ hmem9) hbz hZ90 (hc44 x.1 (by first | omega | (simp; omega))).1 (hc44 x.1 (by first | omega | (simp; omega))).2.1 (hc44 x.1 (by first | omega | (simp; omega))).2.2) (fun v w' h => by obtain ⟨m1, ⟨U8, Z8, m2, m3, m4, m5⟩, m6⟩ := h; exact ⟨v, rfl, m6.mono (fun q h9 => .inl h9), ⟨⟨U8, Z8, m2, m3, fun q h9 => by rcases m4 q h9 with z | z; exact hZ9 q z; exact .inr (by have z2 := zc.chg.size; omega), fun q h9 h8 => by rcases m4 q h8 with z | z; exact hX9 q h9 z; (have z2 := zc.chg.size; rcases h9 with h9 | h9; omega; (have z3 := hrlt q h9; omega))⟩, chg_blk k2 m6 (fun q => hX9 _ (.inl rfl) q), k3.chg m6 (fun q h9 h8 => hX9 q (.inr h9) h8) (fun q h9 => h9.elim)⟩, cvIs m1⟩)
     refine ⟨.inr ⟨1, rfl, by kernel_rfl, true, .none rfl, (fun gg b h => by cases h), (fun h => (nomatch h)), fun zβ za zw zvals zc => ?_⟩, ?_⟩
     ·obtain ⟨z0, rfl⟩ := vlen1 zc.len
      have zn := zc.now
      exact row_48_1 rfl ((evt za 64).trans (zc.link 0 9 64 _ _ rfl (by kernel_rfl) rfl rfl)) ⟨_, rfl, .ofBelow (balloc _ _), ⟨⟨zn.1.below (balloc _ _), zn.2.1.below (balloc _ _), zn.2.2.below (balloc _ _)⟩, _, rfl, Blk.new' rfl⟩, cvNo⟩
     refine ⟨.inr ⟨2, rfl, by kernel_rfl, true, .none rfl, (fun gg b h => by cases h), (fun h => (nomatch h)), fun zβ za zw zvals zc => ?_⟩, ?_⟩
     ·obtain ⟨z0, z1, rfl⟩ := vlen2 zc.len
      have zn := zc.now
      obtain ⟨⟨k1, k2, k3⟩, g1, e, k4⟩ := zn
      have e1 : z1 = za.tmps.getD 65 undef := Option.some.inj (zc.val 1 10 65 rfl (by kernel_rfl))
      exact wp_appD (E := eltN) (y := ((tget l x.1).put (T.putL (l.take x.1) st).1).2) (S2 := fun _ => False) (size := 1) (bytes := 8) (z := .int .i64 0) rfl Try.underlying48 (by kernel_rfl) rfl (by decide) rfl ((evt za 56).trans (optSVal (zc.dep 1 56 (by kernel_rfl) (by decide)) rfl rfl)) ((evt za 65).trans (e1.symm.trans e)) k3 k4 rfl (fun b q => q.elim) (by omega) (by omega) (fun ra rc w' h1 h2 h3 => ⟨_, rfl, h2.mono (fun b q => .inr (.inr q)), ⟨ra, rc, rfl, ((k1.avoid (X2 := fun q => (q = g16 ∨ obk x.2.1 x.1 x.2.2 = some q) ∨ zw.heap.size ≤ q) (fun q h9 => h9)).chg h2 (fun q h9 => .inl (.inr h9))).avoid (fun q h9 => .inl (by rcases h9 with h9 | h9; exact .inl (.inl h9); exact (h3 q h9).imp .inr id)), chg_blk k2 h2 (fun h9 => hrne _ h9 rfl), h1.mono (fun b q _ => by rcases q.1 with q | q <;> exact q) (fun b q => q.elim), fun q h9 => by rcases h3 q h9 with z | z; exact hownw q z; (have z2 := zc.chg.size; omega)⟩, cvNo⟩)
     refine ⟨.inl ⟨rfl, true, .none rfl, (fun gg b h => by cases h), fun h w => optUndef h, fun zβ za zw zc => ?_⟩, ?_⟩
     ·exact fld_57_1 rfl (zc.kn.ev rfl) ⟨_, rfl, Below.refl _ _, optDef zβ rfl⟩
     refine ⟨.inr ⟨3, rfl, by kernel_rfl, true, .none rfl, (fun gg b h => by cases h), (fun h => (nomatch h)), fun zβ za zw zvals zc => ?_⟩, ?_⟩
     ·obtain ⟨z0, z1, z2, rfl⟩ := vlen3 zc.len
      have zn := zc.now
      obtain ⟨ra, rc, e, k1, k2, k3, k9⟩ := zn
      have e2 : z2 = za.tmps.getD 66 undef := Option.some.inj (zc.val 2 11 66 rfl (by kernel_rfl))
      have hne6 : ∀ q, obk ra (x.1 + 1) rc = some q → q ≠ g16 := fun q h9 e9 => (RowD.neBlk k3 k2 (by decide)) (e9 ▸ h9)
      exact st_48 rfl ((evt za 67).trans (optSVal (zc.dep 12 67 (by kernel_rfl) (by decide)) rfl rfl)) ((evt za 66).trans (e2.symm.trans e)) k2 (by first | decide | simp) (fun v => ⟨v, rfl, .ofUpd (Upd.at_ _ _ _ _) (.inr (.inl rfl)), ⟨ra, rc, k1.upd (Upd.at_ _ _ _ _) (.inl rfl), k2.set_ 1 _, k3.chg (Z := fun q => q = g16) (.ofUpd (Upd.at_ _ _ _ _) rfl) (fun q h9 e9 => hne6 q h9 e9) (fun q h9 => h9.elim), k9⟩, cvNo⟩)
     exact trivial
    ·intro za w45 zvals zh zl hG46 hc47 zu zw zk
     obtain ⟨z0, z1, z2, z3, rfl⟩ := vlen4 zl
     obtain ⟨ra9, rc9, kn9, kb9, kr9, hown99⟩ := hG46
     have hC48 : Chg Z w w45 := chg_fresh hCx hc47 (fun q h9 => by rcases h9 with h9 | h9 | h9; exact hZ9 q h9; (right; omega); exact .inr (hownw q h9))
     have hb49 := chg_below hb9 hc47 (fun q hq h9 => by rcases h9 with h9 | h9 | h9; (have z := hZ90 q h9; omega); (have z := hb0.size; omega); exact hown9 q h9 hq)
     clear zu zw zk
     refine WE.go zh ?_
     refine WE.blockNormal (WE.next (WC.region ?_))
     refine WL.val (.int .i64 ((((x.1 + 1) : Nat) : Int))) rfl rfl rfl (fun za zC zh zk => addb_3 rfl (zh.ev rfl) (zh.ev rfl) (wrap_eq (by omega) (by omega) (by omega)) zk) ?_
     refine WL.mv rfl rfl rfl rfl rfl (WL.nil ?_)
     refine WE.round ((x.1 + 1, ra9, rc9)) ⟨rfl, rfl, rfl, rfl, rfl, rfl, rfl, trivial⟩ ?_ ?_
     ·exact ⟨by (try dsimp only); omega, hC48, hown99, hb49, kb9, (by dsimp only; rw [putL_take (by omega)]; exact kn9), (by dsimp only; rw [putL_take (by omega)]; exact kr9)⟩
     ·(try dsimp only); omega
   ·have h37 : ¬ ((((x.1 : Nat) : Int) : Int) < (((l.length : Nat) : Int) : Int)) := by simpa using h37
    refine WC.exit (WE.thenExit (WE.thenExit (WE.blockIs rfl (WE.next (WC.seq ?_)))))
    have hx1 : x.1 = l.length := by omega
    obtain ⟨U9, Z9, hR9, hN9, hZ9, hX9⟩ := ho35
    have hwW : w.heap.size ≤ w32.heap.size := hCx.size
    have hrlt := ho36.lt
    have hZ90 : ∀ q, Z9 q → w0.heap.size ≤ q := fun q h9 => by rcases hZ9 q h9 with z | z; exact hZ0 q z; (have z2 := hb0.size; omega)
    have hG12 : ∀ (vals : List Value) (wa wb : World), Below wa.heap.size wa wb → (fun vals wz => match vals with | [] => (NetX wz g Z9 U9 (T.putL (l.take x.1) st).1.N (T.putL (l.take x.1) st).1.V) ∧ RowD eltN (fun _ => False) wz 3 x.2.1 x.2.2 x.1 ((T.putL (l.take x.1) st).2) | [_] => NetJ wz w.heap.size Z κ d g (((T.putL (l.take x.1) st).1.N ++ [⟨f, (T.putL (l.take x.1) st).2⟩])) ((T.putL (l.take x.1) st).1.V) (fun _ => False) | _ => False) vals wa → (fun vals wz => match vals with | [] => (NetX wz g Z9 U9 (T.putL (l.take x.1) st).1.N (T.putL (l.take x.1) st).1.V) ∧ RowD eltN (fun _ => False) wz 3 x.2.1 x.2.2 x.1 ((T.putL (l.take x.1) st).2) | [_] => NetJ wz w.heap.size Z κ d g (((T.putL (l.take x.1) st).1.N ++ [⟨f, (T.putL (l.take x.1) st).2⟩])) ((T.putL (l.take x.1) st).1.V) (fun _ => False) | _ => False) vals wb := by
     intro vals wa wb hb h
     match vals, h with
     | [], h => exact ⟨h.1.below hb, h.2.below hb⟩
     | [_], h => exact NetJ.below h hb
    have hb9 : Below w0.heap.size w0 w32 := hb33
    refine WC.seqV (S := Z9) [(true, .val (.pointer (some ⟨g, 0, none⟩))), (true, .val (.pointer (some ⟨g, 0, none⟩))), (true, .val (.pointer (some ⟨g, 0, none⟩))), (true, .val (.agg #[.int .i64 f, .slice x.2.1 x.1 x.2.2])), (true, .val undef), (true, .val (.int .i64 (((((T.putL (l.take x.1) st).1.N).length : Nat) : Int))))] [(0, .pointer (some ⟨g, 0, none⟩)), (1, .pointer (some ⟨b, o, none⟩)), (6, .pointer (some ⟨g16, 0, none⟩)), (12, .bool ((decide ((f : Int) < (0 : Int))))), (51, .int .i64 (((l.length : Nat) : Int))), (52, .int .i64 (((x.1 : Nat) : Int))), (53, .bool ((decide ((((x.1 : Nat) : Int) : Int) < (((l.length : Nat) : Int) : Int)))))] [4] [some (true, .int .i64 (((((T.putL (l.take x.1) st).1.N).length : Nat) : Int)))] (fun vals wz => match vals with | [] => (NetX wz g Z9 U9 (T.putL (l.take x.1) st).1.N (T.putL (l.take x.1) st).1.V) ∧ RowD eltN (fun _ => False) wz 3 x.2.1 x.2.2 x.1 ((T.putL (l.take x.1) st).2) | [_] => NetJ wz w.heap.size Z κ d g (((T.putL (l.take x.1) st).1.N ++ [⟨f, (T.putL (l.take x.1) st).2⟩])) ((T.putL (l.take x.1) st).1.V) (fun _ => False) | _ => False) hG12 (by decide) ⟨rfl, rfl, rfl, rfl, rfl, rfl, rfl, trivial⟩ (by kernel_rfl) (by kernel_rfl) (by kernel_rfl) (by kernel_rfl) (⟨hN9, ho36⟩) ?_ ?_
    ·refine ⟨.inl ⟨rfl, true, .none rfl, (fun gg b h => by cases h), fun h w => optUndef h, fun zβ za zw zc => ?_⟩, ?_⟩
     ·exact wp_move rfl (zc.kn.ev rfl) ⟨_, rfl, Below.refl _ _, optDef zβ rfl⟩
     refine ⟨.inl ⟨rfl, true, .none rfl, (fun gg b h => by cases h), fun h w => optUndef h, fun zβ za zw zc => ?_⟩, ?_⟩
     ·exact nilCheck_ rfl ((evt za 69).trans (optSVal (zc.dep 0 69 (by kernel_rfl) (by decide)) rfl rfl)) ⟨_, rfl, Below.refl _ _, optDef zβ rfl⟩
     refine ⟨.inl ⟨rfl, true, .none rfl, (fun gg b h => by cases h), fun h w => optUndef h, fun zβ za zw zc => ?_⟩, ?_⟩
     ·exact fld_54_0 rfl ((evt za 70).trans (optSVal (zc.dep 1 70 (by kernel_rfl) (by decide)) rfl rfl)) ⟨_, rfl, Below.refl _ _, optDef zβ rfl⟩
     refine ⟨.inl ⟨rfl, true, .none rfl, (fun gg b h => by cases h), fun h w => optUndef h, fun zβ za zw zc => ?_⟩, ?_⟩
     ·exact ld_57 rfl (zc.kn.ev rfl) (chg_cell zc.chg (by intro h9; have z := hZ9 _ h9; (try dsimp only at *); exact hX9 _ (.inl rfl) h9) ((hB34.cell 0).trans rfl)) (chg_cell zc.chg (by intro h9; have z := hZ9 _ h9; (try dsimp only at *); exact hX9 _ (.inl rfl) h9) ((hB34.cell 1).trans rfl)) ⟨_, rfl, Below.refl _ _, optDef zβ rfl⟩
     refine ⟨.inr ⟨0, rfl, by kernel_rfl, true, .none rfl, (fun gg b h => by cases h), (fun h => (nomatch h)), fun zβ za zw zvals zc => ?_⟩, ?_⟩
     ·obtain rfl := vlen0 zc.len
      have zn := zc.now
      have hlt9 : ∀ q, obk x.2.1 x.1 x.2.2 = some q → q < zw.heap.size := zn.2.lt
      have hk9 := padd_any U9 _ _ g Z9 (fun q => obk x.2.1 x.1 x.2.2 = some q) ⟨f, (T.putL (l.take x.1) st).2⟩ x.2.1 x.2.2 _ zn.1 zn.2.inRowOwn (fun q h9 => ⟨hX9 q (.inr h9), hlt9 q h9⟩) (by omega)
      rw [show (Pt.mk f (T.putL (l.take x.1) st).2).args.length = x.1 from hlk] at hk9
      exact wp_call (by kernel_rfl) rfl (hv2 ((evt za 71).trans (optSVal (zc.dep 2 71 (by kernel_rfl) (by decide)) rfl rfl)) ((evt za 72).trans (optSVal (zc.dep 3 72 (by kernel_rfl) (by decide)) rfl rfl))) hk9 (fun v w' h => by obtain ⟨k1, ⟨Z', k2, k3⟩, k4⟩ := h; exact ⟨v, rfl, k4, ⟨_, Z', by rw [← hN9.len]; exact hR9.push (by rw [hN9.len]; exact fun i hi => hκ i (by omega)), k2, fun q h9 => by rcases k3 q h9 with z | z | z; exact hZ9 q z; exact .inr (hownw q z); exact .inr (by have z2 := zc.chg.size; omega), fun b q => q.elim⟩, cvIs k1⟩)
     refine ⟨.inl ⟨rfl, true, .none rfl, (fun gg b h => by cases h), fun h w => optUndef h, fun zβ za zw zc => ?_⟩, ?_⟩
     ·exact wp_assign rfl ((evt za 73).trans (zc.link 0 4 73 _ _ rfl (by kernel_rfl) rfl rfl)) ⟨_, rfl, Below.refl _ _, optDef zβ rfl⟩
     exact trivial
    ·intro za w50 zvals zh zl hG51 hc52 zu zw zk
     obtain ⟨z0, rfl⟩ := vlen1 zl
     have zh := zh.cons (d := 4) (v := .int .i64 (((((T.putL (l.take x.1) st).1.N).length : Nat) : Int))) (optSVal (zu 5 4 (by kernel_rfl) (by decide)) rfl rfl)
     have hC53 : Chg Z w w50 := chg_fresh hCx hc52 (fun q h9 => hZ9 q h9)
     have hb54 := chg_below hb9 hc52 (fun q hq h9 => by have z := hZ90 q h9; omega)
     clear zu zw zk
     refine WE.go zh ?_
     refine WE.next (WC.ret (WE.ret1 rfl rfl ?_))
     have e : (T.mk f l).put st = (⟨(T.putL (l.take x.1) st).1.N ++ [⟨f, (T.putL (l.take x.1) st).2⟩], (T.putL (l.take x.1) st).1.V⟩, ((T.putL (l.take x.1) st).1.N).length) := by
      rw [hx1, List.take_length, T.put, if_neg hf0]
     rw [e]
     exact ⟨_, rfl, rfl, hG51, hC53⟩
end Go.Proofs.Ythhgidliopohcaa

/- A term is put into the net: the document's program. -/
namespace Go.Proofs.Ythhgidliopohcaa
open Go.RowKit Go
set_option linter.unusedVariables false
set_option linter.unusedSimpArgs false
end Go.Proofs.Ythhgidliopohcaa

namespace Go.Proofs.Ythhgidliopohcaa
open Go.RowKit Go
set_option linter.unusedVariables false
set_option linter.unusedSimpArgs false
def eltD : Elt (T × T) where
  k := 4
  In := fun S w p cs => ∃ u v x y, cs = [u, v, x, y] ∧ InT S w p.1 (.agg #[u, v]) ∧ InT S w p.2 (.agg #[x, y])
  keep := fun hb ⟨u, v, x, y, e, h1, h2⟩ => ⟨u, v, x, y, e, h1.keep hb, h2.keep hb⟩
  mono := fun hb ⟨u, v, x, y, e, h1, h2⟩ => ⟨u, v, x, y, e, h1.mono hb, h2.mono hb⟩
  len := fun ⟨_, _, _, _, e, _, _⟩ => by rw [e]; rfl
  one := fun ⟨u, v, x, y, e, h1, h2⟩ q hq => by
    obtain ⟨_, a, c, e1, _⟩ := h1.form
    obtain ⟨_, a', c', e2, _⟩ := h2.form
    simp only [Value.agg.injEq, Array.mk.injEq, List.cons.injEq, and_true] at e1 e2
    rw [e] at hq
    simp only [List.mem_cons, List.not_mem_nil, or_false] at hq
    rcases hq with rfl | rfl | rfl | rfl
    · rw [e1.1]; rfl
    · rw [e1.2]; rfl
    · rw [e2.1]; rfl
    · rw [e2.2]; rfl
def prget (l : List (T × T)) (k : Nat) : T × T := l.getD k (.mk 0 [], .mk 0 [])
theorem prget_lt {l : List (T × T)} {k : Nat} (h : k < l.length) : prget l k = l[k] := by simp [prget, h]
theorem prget_mem {l : List (T × T)} {k : Nat} (h : k < l.length) : prget l k ∈ l := by rw [prget_lt h]; exact List.getElem_mem h
/-- A row of pairs of terms. -/
def IsPs (w : World) (l : List (T × T)) (a : Option Addr) (c : Nat) : Prop := InRow eltD (fun _ => True) w l a ∧ l.length ≤ c ∧ c ≤ maxLen
section
variable {w w' : World} {l : List (T × T)} {a : Option Addr} {c : Nat}
theorem IsPs.below (h : IsPs w l a c) (hb : Below w.heap.size w w') : IsPs w' l a c := ⟨h.1.below hb, h.2⟩
theorem IsPs.open (h : IsPs w l a c) : ∃ (b o : Nat) (A1 : Nat → Option Addr) (C1 : Nat → Nat) (A2 : Nat → Option Addr) (C2 : Nat → Nat), (∀ k, k < l.length → a = some ⟨b, o, none⟩) ∧
    ∀ k, k < l.length → w.cell? ⟨b, o + k * 4, none⟩ = some (.int .i64 (prget l k).1.f) ∧ w.cell? ⟨b, o + k * 4 + 1, none⟩ = some (.slice (A1 k) (prget l k).1.args.length (C1 k)) ∧ w.cell? ⟨b, o + k * 4 + 2, none⟩ = some (.int .i64 (prget l k).2.f) ∧ w.cell? ⟨b, o + k * 4 + 3, none⟩ = some (.slice (A2 k) (prget l k).2.args.length (C2 k)) ∧
      IsT w (prget l k).1 (.agg #[.int .i64 (prget l k).1.f, .slice (A1 k) (prget l k).1.args.length (C1 k)]) ∧ IsT w (prget l k).2 (.agg #[.int .i64 (prget l k).2.f, .slice (A2 k) (prget l k).2.args.length (C2 k)]) := by
  rcases Nat.eq_zero_or_pos l.length with h0 | h0
  · exact ⟨0, 0, fun _ => none, fun _ => 0, fun _ => none, fun _ => 0, fun k hk => by omega, fun k hk => by omega⟩
  · obtain ⟨b, o, _, ha, _⟩ := h.1 0 h0
    have key : ∀ k, k < l.length → ∃ p : (Option Addr × Nat) × Option Addr × Nat, w.cell? ⟨b, o + k * 4, none⟩ = some (.int .i64 (prget l k).1.f) ∧ w.cell? ⟨b, o + k * 4 + 1, none⟩ = some (.slice p.1.1 (prget l k).1.args.length p.1.2) ∧ w.cell? ⟨b, o + k * 4 + 2, none⟩ = some (.int .i64 (prget l k).2.f) ∧ w.cell? ⟨b, o + k * 4 + 3, none⟩ = some (.slice p.2.1 (prget l k).2.args.length p.2.2) ∧
        IsT w (prget l k).1 (.agg #[.int .i64 (prget l k).1.f, .slice p.1.1 (prget l k).1.args.length p.1.2]) ∧ IsT w (prget l k).2 (.agg #[.int .i64 (prget l k).2.f, .slice p.2.1 (prget l k).2.args.length p.2.2]) := by
      intro k hk
      obtain ⟨b2, o2, cs, e1, _, ⟨u, v, x, y, h3, h5, h6⟩, h4⟩ := h.1 k hk
      rw [ha] at e1
      simp only [Option.some.injEq, Addr.mk.injEq, and_true] at e1
      obtain ⟨rfl, rfl⟩ := e1
      subst h3
      rw [← prget_lt hk] at h5 h6
      obtain ⟨_, a1, c1, e1, _⟩ := h5.isT.form
      obtain ⟨_, a2, c2, e2, _⟩ := h6.isT.form
      have k1 := h5.isT
      have k2 := h6.isT
      simp only [Value.agg.injEq, Array.mk.injEq, List.cons.injEq, and_true] at e1 e2
      obtain ⟨rfl, rfl⟩ := e1
      obtain ⟨rfl, rfl⟩ := e2
      exact ⟨((a1, c1), (a2, c2)), h4 0 (by decide), h4 1 (by decide), h4 2 (by decide), h4 3 (by decide), k1, k2⟩
    have : Inhabited ((Option Addr × Nat) × Option Addr × Nat) := ⟨((none, 0), (none, 0))⟩
    obtain ⟨F, hF⟩ := Go.Deep.choose_lt key
    exact ⟨b, o, fun k => (F k).1.1, fun k => (F k).1.2, fun k => (F k).2.1, fun k => (F k).2.2, fun _ _ => ha, hF⟩
/-- One pair in a block of its own. -/
theorem IsPs.one {g e : Nat} {t s : T} {u v x y : Value} (hB : Blk w g e #[u, v, x, y]) (h1 : IsT w t (.agg #[u, v])) (h2 : IsT w s (.agg #[x, y])) : IsPs w [(t, s)] (some ⟨g, 0, none⟩) 1 := by
  refine ⟨fun i hi => ?_, Nat.le_refl _, by unfold maxLen; omega⟩
  have hi' : i < 1 := hi
  obtain rfl : i = 0 := by omega
  refine ⟨g, 0, [u, v, x, y], rfl, trivial, ⟨u, v, x, y, rfl, h1.inT.mono (fun _ _ _ => trivial), h2.inT.mono (fun _ _ _ => trivial)⟩, fun j hj => ?_⟩
  rw [Nat.zero_mul, Nat.zero_add, hB.cell j]; simp
end
end Go.Proofs.Ythhgidliopohcaa
