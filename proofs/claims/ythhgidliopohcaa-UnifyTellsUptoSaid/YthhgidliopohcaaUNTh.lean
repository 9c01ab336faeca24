/- What variables become: the program. -/
import Derived.Test.YthhgidliopohcaaUNTg
import Derived.Test.YthhgidliopohcaaUNTd
import Derived.Test.YthhgidliopohcaaUNTc
import Derived.Test.YthhgidliopohcaaUNTe

/- What a part becomes: the document's program. -/
namespace Go.Proofs.Ythhgidliopohcaa
open Go.RowKit Go
set_option linter.unusedVariables false
set_option linter.unusedSimpArgs false
set_option maxRecDepth 100000 in
theorem rterm_any (κ d sz dp : Nat → Nat) (N : List Pt) (V : Nat → Nat) (g : Nat) (S : Nat → Prop) (la : Option Addr) (lc ub uc vb vc : Nat) (hk : KOk N κ) (hN : NOk N) (hn : N.length ≤ 1048576) (hs : argN N ≤ 1048576) (hI : ∀ i, i < N.length → I64 (pget N i).fn) (hm : Meas N κ sz dp) : ∀ (n : Nat) (U : List Nat) (i : Nat) (w : World), dp (κ i) ≤ n → PR w g S (la, N.length, lc) ((some ⟨ub, 0, none⟩), N.length, uc) la lc N (some ⟨ub, 0, none⟩) uc U vb vc V → U.length = N.length → Reps U κ d → i < N.length →
  Calls Try.prog 29 #[.pointer (some ⟨g, 0, none⟩), .int .i64 (i : Int)] w (Ret fun v' w' => NewT w w' (tmF N κ n i) v' ∧ (∃ U', (Reps U' κ d ∧ U'.length = N.length) ∧ PR w' g S (la, N.length, lc) ((some ⟨ub, 0, none⟩), N.length, uc) la lc N (some ⟨ub, 0, none⟩) uc U' vb vc V) ∧ Chg (fun b => b = ub) w w') := by
 intro n
 induction n with
 | zero => intro U i w h _ _ _ hi; have := (dpF_ge κ dp (pget N (κ i)).args 1).1; have e := hm.dp i hi; unfold dpF at e; omega
 | succ m ih => ?_
 intro U i w hdp hP hUl hR0 hi
 have hR := (⟨hR0, hUl⟩ : Reps U κ d ∧ U.length = N.length)
 have hC0 := Chg.refl (fun b => b = ub) w
 have hlr : κ i < N.length := hk.lt _ hi
 have hal9 := args_le hlr
 have hlt0 := hP.lt
 have hub := hlt0 ub (.inr (.inr (.inr (.inl rfl))))
 have hgl := hlt0 g (.inl rfl)
 have hgu : g ≠ ub := fun e => (hP.uS ub rfl).2.1 e.symm
 have hSlt : ∀ b, S b → b < w.heap.size := fun b q => (hP.sS b q).2.2
 have hSub : ∀ b, S b → b ≠ ub := fun b q e => (hP.uS ub rfl).1 (e ▸ q)
 have hf := hI _ hlr
 obtain ⟨ob, A9, C9, rfl, hob, hcP⟩ := hP.ofP (by omega)
 have hou : ob ≠ ub := fun e => (hP.uS ub rfl).2.2.2 (by rw [hob, e])
 have hml : ∀ k, k < (pget N (κ i)).args.length → aget (pget N (κ i)).args k < N.length ∧ dp (κ (aget (pget N (κ i)).args k)) ≤ m := fun k hk2 => by
  have z := (hN (κ i) hlr).1 _ (aget_mem hk2)
  have z2 := hm.lt hi (aget_mem hk2)
  exact ⟨by omega, by omega⟩
 refine Calls.walk (l := [.pointer (some ⟨g, 0, none⟩), .int .i64 (((i : Nat) : Int))]) Try.func29 rfl (by kernel_rfl) ?_
 refine WC.sub (K' := [(0, .pointer (some ⟨g, 0, none⟩)), (1, .int .i64 (((i : Nat) : Int)))]) ⟨rfl, rfl, trivial⟩ ?_
 refine WC.seq (WC.region ?_)
 refine WL.step (post := NewBlk w 32 #[.int .i64 0, .slice none 0 0]) rfl rfl rfl (fun za zC zh zk => alloc_32 rfl (zk _ _ (newBlk _ _ _))) ?_
 rintro _ w1 ⟨g2, rfl, hg3, hB4, hb5, hz6⟩
 have hl7 : w.heap.size ≤ g2 := by omega
 refine WL.nil (WE.next (WC.seq ?_))
 have ho8 := hP.below hb5
 have ho9 := (hcP (κ i) hlr).2.2.below hb5
 have hC10 := Chg.trans hC0 (.ofBelow hb5)
 have hcP11 := fun k (hk2 : k < N.length) => (hcP k hk2)
 have hlt1 := ho8.lt
 have hw1 := (hC10).size
 have hcQ : ∀ k, k < N.length → w1.cell? ⟨ob, 0 + k * 2, none⟩ = some (.int .i64 (pget N k).fn) ∧ w1.cell? ⟨ob, 0 + k * 2 + 1, none⟩ = some (.slice (A9 k) (pget N k).args.length (C9 k)) := fun k hk2 => ⟨bkeeps hb5 _ _ (hcP k hk2).1, bkeeps hb5 _ _ (hcP k hk2).2.1⟩
 refine WC.boxC ((fun b => b = ub)) ((fun b e => by rw [show b = ub from e]; omega)) ((fun w' v => v = .int .i64 ((κ i : Nat) : Int) ∧ ∃ U1, (Reps U1 κ d ∧ U1.length = N.length) ∧ PR w' g S ((some ⟨ob, 0, none⟩), N.length, lc) ((some ⟨ub, 0, none⟩), N.length, uc) (some ⟨ob, 0, none⟩) lc N (some ⟨ub, 0, none⟩) uc U1 vb vc V)) ((fun w1 w2 v h z => by obtain ⟨e, U1, m1, m2⟩ := z; exact ⟨e, U1, m1, m2.chg h (fun b q q2 => by have z := hlt1 b q; omega)⟩)) [(true, .pointer (some ⟨g, 0, none⟩)), (true, .pointer (some ⟨g, 0, none⟩)), (true, .pointer (some ⟨g, 0, none⟩)), (true, .slice ((some ⟨ob, 0, none⟩)) N.length lc), (true, .pointer (some ⟨g, 0, none⟩)), (true, .int .i64 (((i : Nat) : Int))), (true, undef), (true, .pointer (some ⟨ob, 0 + ((κ i)) * 2, none⟩)), (true, .agg #[.int .i64 ((pget N ((κ i))).fn), .slice ((A9 ((κ i)))) ((pget N ((κ i))).args.length) ((C9 ((κ i))))]), (true, undef), (true, undef)] [(0, .pointer (some ⟨g, 0, none⟩)), (1, .int .i64 (((i : Nat) : Int))), (4, .pointer (some ⟨g2, 0, none⟩))] (t := 69) (z := #[.int .i64 0, .slice none 0 0]) (.agg #[.int .i64 ((pget N ((κ i))).fn), .slice ((A9 ((κ i)))) ((pget N ((κ i))).args.length) ((C9 ((κ i))))]) 6 9 10 5 (by decide) (by kernel_rfl) rfl ⟨rfl, rfl, rfl, trivial⟩ (by kernel_rfl) (by kernel_rfl) (by kernel_rfl) ?_ ?_
 ·refine ⟨.inl ⟨rfl, rfl, fun za zw zc => ?_⟩, ?_⟩
  ·exact wp_move rfl (zc.kn.ev rfl) ⟨_, rfl, Below.refl _ _, fun _ => rfl⟩
  refine ⟨.inl ⟨rfl, rfl, fun za zw zc => ?_⟩, ?_⟩
  ·exact nilCheck_ rfl ((evt za 8).trans (valVal1 (zc.dep 0 8 (by kernel_rfl) (by decide)) rfl rfl)) ⟨_, rfl, Below.refl _ _, fun _ => rfl⟩
  refine ⟨.inl ⟨rfl, rfl, fun za zw zc => ?_⟩, ?_⟩
  ·exact fld_67_0 rfl ((evt za 9).trans (valVal1 (zc.dep 1 9 (by kernel_rfl) (by decide)) rfl rfl)) ⟨_, rfl, Below.refl _ _, fun _ => rfl⟩
  refine ⟨.inl ⟨rfl, rfl, fun za zw zc => ?_⟩, ?_⟩
  ·exact ld_65 rfl ((evt za 10).trans (valVal1 (zc.dep 2 10 (by kernel_rfl) (by decide)) rfl rfl)) (chg_cell zc.chg (by first | exact hgu | exact hou) ho8.c0) ⟨_, rfl, Below.refl _ _, fun _ => rfl⟩
  refine ⟨.inl ⟨rfl, rfl, fun za zw zc => ?_⟩, ?_⟩
  ·exact wp_move rfl (zc.kn.ev rfl) ⟨_, rfl, Below.refl _ _, fun _ => rfl⟩
  refine ⟨.inl ⟨rfl, rfl, fun za zw zc => ?_⟩, ?_⟩
  ·exact wp_move rfl (zc.kn.ev rfl) ⟨_, rfl, Below.refl _ _, fun _ => rfl⟩
  refine ⟨.inr (.inl ⟨rfl, rfl, fun za zw zc => ?_⟩), ?_⟩
  ·exact wp_call (by kernel_rfl) rfl (hv2 ((evt za 12).trans (valVal1 (zc.dep 4 12 (by kernel_rfl) (by decide)) rfl rfl)) ((evt za 13).trans (valVal1 (zc.dep 5 13 (by kernel_rfl) (by decide)) rfl rfl))) (rtop_any κ d _ g S _ lc N _ uc U vb vc V _ i (by rw [hUl]; exact (ho8.below (zc.below (.inl rfl)))) hR0 (by omega) (by omega)) (fun v w' h => ⟨v, rfl, .ofBelow h.2, h.1, U, hR, (PR.below (ho8.below (zc.below (.inl rfl))) h.2)⟩)
  refine ⟨.inl ⟨rfl, rfl, fun za zw zc => ?_⟩, ?_⟩
  ·exact ix_65 (k := (κ i)) rfl ((evt za 11).trans (valVal1 (zc.dep 3 11 (by kernel_rfl) (by decide)) rfl rfl)) rfl ((evt za 14).trans (zc.made 14 (by kernel_rfl)).1) (by first | omega | (simp; omega)) ⟨_, rfl, Below.refl _ _, fun _ => rfl⟩
  refine ⟨.inl ⟨rfl, rfl, fun za zw zc => ?_⟩, ?_⟩
  ·exact ld_69 rfl ((evt za 15).trans (valVal1 (zc.dep 7 15 (by kernel_rfl) (by decide)) rfl rfl)) (chg_cell zc.chg (by first | exact hgu | exact hou) (hcQ ((κ i)) (by first | omega | (simp; omega))).1) (chg_cell zc.chg (by first | exact hgu | exact hou) (hcQ ((κ i)) (by first | omega | (simp; omega))).2) ⟨_, rfl, Below.refl _ _, fun _ => rfl⟩
  refine ⟨.inr (.inr (.inl ⟨rfl, rfl, fun za zw zc => ?_⟩)), ?_⟩
  ·exact alloc_69 rfl ⟨rfl, rfl⟩
  refine ⟨.inr (.inr (.inr ⟨rfl, rfl, 5, by kernel_rfl, fun za zw g zc z1 zB => ?_⟩)), ?_⟩
  ·exact st_69 rfl ((evt za 5).trans z1) ((evt za 16).trans (valVal1 (zc.dep 8 16 (by kernel_rfl) (by decide)) rfl rfl)) rfl rfl zB (by first | decide | simp) (fun v => ⟨v, rfl, (Upd.at_ _ _ _ _).trans (Upd.at_ _ _ _ _), (zB.set_ 0 _).set_ 1 _⟩)
  exact trivial
 ·intro za w12 gz13 v14 zh hc15 hq16 hg17 hB18 hp19 zu
  have hl20 : g2 < gz13 := by have z1 := hB4.lt; omega
  have hB21 := chg_blk hB4 hc15 (fun e => by (try dsimp only at e); omega)
  have zh := zh.cons (d := 5) hp19
  clear zu
  obtain ⟨_, U1, hR1, hP1⟩ := hq16
  have hC22 := Chg.trans hC10 hc15
  have ha23 := ho9.chgS hc15 (fun b q e => hSub b q e)
  refine WE.go zh ?_
  refine WE.next (WC.seq (WC.region ?_))
  refine WL.val _ rfl rfl rfl (fun za zC zh zk => fld_69_0 rfl (zh.ev rfl) zk) ?_
  refine WL.val _ rfl rfl rfl (fun za zC zh zk => ld_3 rfl (zh.ev rfl) ((hB18.cell 0).trans rfl) zk) ?_
  refine WL.val (.agg #[.int .i64 ((pget N ((κ i))).fn), .slice none 0 0]) rfl rfl rfl (fun za zC zh zk => build_32_0 rfl (zh.ev rfl) zk) ?_
  refine WL.step (post := NewBlk w12 32 #[.int .i64 0, .slice none 0 0]) rfl rfl rfl (fun za zC zh zk => alloc_32 rfl (zk _ _ (newBlk _ _ _))) ?_
  rintro _ w24 ⟨g25, rfl, hg26, hB27, hb28, hz29⟩
  have hl30 : g2 < g25 := by have z1 := hB21.lt; omega
  have hl31 : gz13 < g25 := by have z1 := hB18.lt; omega
  have hl32 : w12.heap.size ≤ g25 := by omega
  refine WL.step (post := fun _ w' => Upd g25 w24 w' ∧ Blk w' g25 32 #[.int .i64 ((pget N ((κ i))).fn), .slice none 0 0]) rfl rfl rfl (fun za zC zh zk => st_32 rfl (zh.ev rfl) (zh.ev rfl) rfl rfl hB27 (by first | decide | simp) (fun v => zk v _ ⟨(Upd.at_ _ _ _ _).trans (Upd.at_ _ _ _ _), (hB27.set_ 0 _).set_ 1 _⟩)) ?_
  rintro v36 w33 ⟨hu34, hB35⟩
  have hb37 := upd_below hb28 hu34 (by omega)
  have hB38 := hB21.below hb28
  have hB39 := upd_blk hB38 hu34 (by omega)
  have hB40 := hB18.below hb28
  have hB41 := upd_blk hB40 hu34 (by omega)
  refine WL.nil (WE.next (WC.seq (WC.seq (WC.region (WL.asg rfl rfl rfl rfl rfl (WL.nil (WE.next (WC.block ?_))))))))
  have hC42 := Chg.trans hC22 (.ofBelow hb37)
  have hr0 : RowD eltT (fun b => w.heap.size ≤ b ∧ b ≠ g2 ∧ b ≠ gz13 ∧ b ≠ g25 ∧ obk none 0 0 ≠ some b) w33 32 none 0 0 ((((pget N (κ i)).args.map (tmF N κ m)).take 0)) := RowD.nil
  have hgw43 : w.heap.size ≤ g2 := by have z := (hC42).size; omega
  have hgw44 : w.heap.size ≤ gz13 := by have z := (hC42).size; omega
  have hgw45 : w.heap.size ≤ g25 := by have z := (hC42).size; omega
  refine WC.loop (X := Nat × Option Addr × Nat × List Nat) (fun x => (pget N (κ i)).args.length - x.1) (fun x => [(0, .pointer (some ⟨g, 0, none⟩)), (1, .int .i64 (((i : Nat) : Int))), (4, .pointer (some ⟨g2, 0, none⟩)), (5, .pointer (some ⟨gz13, 0, none⟩)), (6, .pointer (some ⟨g25, 0, none⟩)), (7, .int .i64 (((x.1 : Nat) : Int)))]) (fun x w46 => x.1 ≤ (pget N (κ i)).args.length ∧ (Reps x.2.2.2 κ d ∧ x.2.2.2.length = N.length) ∧ (∀ q, obk x.2.1 x.1 x.2.2.1 = some q → w.heap.size ≤ q ∧ q ≠ g2 ∧ q ≠ gz13 ∧ q ≠ g25) ∧ Chg (fun b => b = ub) w w46 ∧ Blk w46 g2 32 #[.int .i64 0, .slice none 0 0] ∧ Blk w46 gz13 69 #[.int .i64 ((pget N ((κ i))).fn), .slice ((A9 ((κ i)))) ((pget N ((κ i))).args.length) ((C9 ((κ i))))] ∧ Blk w46 g25 32 #[.int .i64 ((pget N (κ i)).fn), .slice x.2.1 x.1 x.2.2.1] ∧ PR (w46) g S ((some ⟨ob, 0, none⟩), N.length, lc) ((some ⟨ub, 0, none⟩), N.length, uc) (some ⟨ob, 0, none⟩) lc N (some ⟨ub, 0, none⟩) uc x.2.2.2 vb vc V ∧ InRow eltN S (w46) (pget N (κ i)).args (A9 (κ i)) ∧ RowD eltT (fun b => w.heap.size ≤ b ∧ b ≠ g2 ∧ b ≠ gz13 ∧ b ≠ g25 ∧ obk x.2.1 x.1 x.2.2.1 ≠ some b) (w46) 32 x.2.1 x.2.2.1 x.1 ((((pget N (κ i)).args.map (tmF N κ m)).take x.1))) ((0, none, 0, U1)) ⟨rfl, rfl, rfl, rfl, rfl, rfl, trivial⟩ ?_ ?_
  ·have ho47 := hP1.below hb37
   have ho48 := ha23.below hb37
   exact ⟨Nat.zero_le _, hR1, (fun q e => nomatch e), hC42, hB39, hB41, hB35, ho47, ho48, hr0⟩
  ·rintro x w46 ⟨hkx, hRx, hownx, hCx, hB49, hB50, hB51, ho52, ho53, ho54⟩
   have hwx := hCx.size
   refine WC.seq (WC.seq (WC.region (WL.mv rfl rfl rfl rfl rfl ?_)))
   refine WL.val _ rfl rfl rfl (fun za zC zh zk => fld_69_1 rfl (zh.ev rfl) zk) ?_
   refine WL.val _ rfl rfl rfl (fun za zC zh zk => ld_48 rfl (zh.ev rfl) ((hB50.cell 1).trans rfl) zk) ?_
   refine WL.val (.int .i64 ((((pget N ((κ i))).args.length : Nat) : Int))) rfl rfl rfl (fun za zC zh zk => len_48 rfl (zh.ev rfl) zk) ?_
   refine WL.val (.bool ((decide ((((x.1 : Nat) : Int) : Int) < ((((pget N ((κ i))).args.length : Nat) : Int) : Int))))) rfl rfl rfl (fun za zC zh zk => lss_3 rfl (zh.ev rfl) (zh.ev rfl) zk) ?_
   refine WL.nil (WE.next ?_)
   refine WC.cond rfl (fun h55 => ?_) (fun h55 => ?_)
   ·have h55 : (((x.1 : Nat) : Int) : Int) < ((((pget N ((κ i))).args.length : Nat) : Int) : Int) := by simpa using h55
    refine WC.skip (WE.next (WC.seq (WC.block ?_)))
    have hl56 : g2 < w46.heap.size := hB49.lt
    have hl57 : gz13 < w46.heap.size := hB50.lt
    have hl58 : g25 < w46.heap.size := hB51.lt
    have hkl : x.1 < (pget N (κ i)).args.length := by omega
    obtain ⟨hal, hdl⟩ := hml x.1 hkl
    have hkw : ∀ b, obk x.2.1 x.1 x.2.2.1 = some b → b < w46.heap.size := ho54.lt
    have hcap9 := ho54.inRow.2.2
    unfold maxLen at hcap9
    have hww : w.heap.size ≤ w46.heap.size := (hCx).size
    have hLs : (((pget N (κ i)).args.map (tmF N κ m)).take (x.1 + 1)) = (((pget N (κ i)).args.map (tmF N κ m)).take x.1) ++ [(tmF N κ m (aget (pget N (κ i)).args x.1))] := by rw [List.take_succ_eq_append_getElem (by rw [List.length_map]; exact hkl), List.getElem_map, aget_lt hkl]
    have hSn : ∀ b, S b → ¬ (fun b => b = ub ∨ obk x.2.1 x.1 x.2.2.1 = some b ∨ b = g25) b := fun b q e => by rcases e with e | e | e; exact hSub b q e; (have z := hSlt b q; have z2 := (hownx b e).1; omega); (have z := hSlt b q; omega)
    have hng : ∀ (wa wb : World), Below wa.heap.size wa wb → (∃ U2, (Reps U2 κ d ∧ U2.length = N.length) ∧ PR wa g S ((some ⟨ob, 0, none⟩), N.length, lc) ((some ⟨ub, 0, none⟩), N.length, uc) (some ⟨ob, 0, none⟩) lc N (some ⟨ub, 0, none⟩) uc U2 vb vc V) → (∃ U2, (Reps U2 κ d ∧ U2.length = N.length) ∧ PR wb g S ((some ⟨ob, 0, none⟩), N.length, lc) ((some ⟨ub, 0, none⟩), N.length, uc) (some ⟨ob, 0, none⟩) lc N (some ⟨ub, 0, none⟩) uc U2 vb vc V) := fun wa wb hb ⟨U2, k1, k2⟩ => ⟨U2, k1, k2.below hb⟩
    have hGV9 : ∀ (vals : List Value) (wa wb : World), Below wa.heap.size wa wb → (fun vals wz => match vals with | [] => (∃ U2, (Reps U2 κ d ∧ U2.length = N.length) ∧ PR wz g S ((some ⟨ob, 0, none⟩), N.length, lc) ((some ⟨ub, 0, none⟩), N.length, uc) (some ⟨ob, 0, none⟩) lc N (some ⟨ub, 0, none⟩) uc U2 vb vc V) ∧ (RowD eltT (fun b => w.heap.size ≤ b ∧ b ≠ g2 ∧ b ≠ gz13 ∧ b ≠ g25 ∧ obk x.2.1 x.1 x.2.2.1 ≠ some b) wz 32 x.2.1 x.2.2.1 x.1 ((((pget N (κ i)).args.map (tmF N κ m)).take x.1))) ∧ Blk wz g25 32 #[.int .i64 (pget N (κ i)).fn, .slice x.2.1 x.1 x.2.2.1] | [z0] => InT (fun b => w46.heap.size ≤ b) wz (tmF N κ m (aget (pget N (κ i)).args x.1)) z0 ∧ (∃ U2, (Reps U2 κ d ∧ U2.length = N.length) ∧ PR wz g S ((some ⟨ob, 0, none⟩), N.length, lc) ((some ⟨ub, 0, none⟩), N.length, uc) (some ⟨ob, 0, none⟩) lc N (some ⟨ub, 0, none⟩) uc U2 vb vc V) ∧ (RowD eltT (fun b => w.heap.size ≤ b ∧ b ≠ g2 ∧ b ≠ gz13 ∧ b ≠ g25 ∧ obk x.2.1 x.1 x.2.2.1 ≠ some b) wz 32 x.2.1 x.2.2.1 x.1 ((((pget N (κ i)).args.map (tmF N κ m)).take x.1))) ∧ Blk wz g25 32 #[.int .i64 (pget N (κ i)).fn, .slice x.2.1 x.1 x.2.2.1] | [_, z1] => (∃ g1 cs, z1 = .slice (some ⟨g1, 0, none⟩) 1 1 ∧ Blk wz g1 32 (List.toArray cs) ∧ eltT.In (fun b => w46.heap.size ≤ b) wz (tmF N κ m (aget (pget N (κ i)).args x.1)) cs) ∧ (∃ U2, (Reps U2 κ d ∧ U2.length = N.length) ∧ PR wz g S ((some ⟨ob, 0, none⟩), N.length, lc) ((some ⟨ub, 0, none⟩), N.length, uc) (some ⟨ob, 0, none⟩) lc N (some ⟨ub, 0, none⟩) uc U2 vb vc V) ∧ (RowD eltT (fun b => w.heap.size ≤ b ∧ b ≠ g2 ∧ b ≠ gz13 ∧ b ≠ g25 ∧ obk x.2.1 x.1 x.2.2.1 ≠ some b) wz 32 x.2.1 x.2.2.1 x.1 ((((pget N (κ i)).args.map (tmF N κ m)).take x.1))) ∧ Blk wz g25 32 #[.int .i64 (pget N (κ i)).fn, .slice x.2.1 x.1 x.2.2.1] | [_, _, z2] => ∃ ra2 rc2, z2 = .slice ra2 (x.1 + 1) rc2 ∧ (RowD eltT (fun b => w.heap.size ≤ b ∧ b ≠ g2 ∧ b ≠ gz13 ∧ b ≠ g25 ∧ obk ra2 ((x.1 + 1)) rc2 ≠ some b) wz 32 ra2 rc2 ((x.1 + 1)) (((((pget N (κ i)).args.map (tmF N κ m)).take x.1) ++ [(tmF N κ m (aget (pget N (κ i)).args x.1))]))) ∧ (∀ q, obk ra2 ((x.1 + 1)) rc2 = some q → w.heap.size ≤ q ∧ q ≠ g2 ∧ q ≠ gz13 ∧ q ≠ g25) ∧ (∃ U2, (Reps U2 κ d ∧ U2.length = N.length) ∧ PR wz g S ((some ⟨ob, 0, none⟩), N.length, lc) ((some ⟨ub, 0, none⟩), N.length, uc) (some ⟨ob, 0, none⟩) lc N (some ⟨ub, 0, none⟩) uc U2 vb vc V) ∧ Blk wz g25 32 #[.int .i64 (pget N (κ i)).fn, .slice x.2.1 x.1 x.2.2.1] | [_, _, z2, _] => ∃ ra2 rc2, z2 = .slice ra2 (x.1 + 1) rc2 ∧ (RowD eltT (fun b => w.heap.size ≤ b ∧ b ≠ g2 ∧ b ≠ gz13 ∧ b ≠ g25 ∧ obk ra2 ((x.1 + 1)) rc2 ≠ some b) wz 32 ra2 rc2 ((x.1 + 1)) (((((pget N (κ i)).args.map (tmF N κ m)).take x.1) ++ [(tmF N κ m (aget (pget N (κ i)).args x.1))]))) ∧ (∀ q, obk ra2 ((x.1 + 1)) rc2 = some q → w.heap.size ≤ q ∧ q ≠ g2 ∧ q ≠ gz13 ∧ q ≠ g25) ∧ (∃ U2, (Reps U2 κ d ∧ U2.length = N.length) ∧ PR wz g S ((some ⟨ob, 0, none⟩), N.length, lc) ((some ⟨ub, 0, none⟩), N.length, uc) (some ⟨ob, 0, none⟩) lc N (some ⟨ub, 0, none⟩) uc U2 vb vc V) ∧ Blk wz g25 32 #[.int .i64 (pget N (κ i)).fn, .slice ra2 (x.1 + 1) rc2] | _ => False) vals wa → (fun vals wz => match vals with | [] => (∃ U2, (Reps U2 κ d ∧ U2.length = N.length) ∧ PR wz g S ((some ⟨ob, 0, none⟩), N.length, lc) ((some ⟨ub, 0, none⟩), N.length, uc) (some ⟨ob, 0, none⟩) lc N (some ⟨ub, 0, none⟩) uc U2 vb vc V) ∧ (RowD eltT (fun b => w.heap.size ≤ b ∧ b ≠ g2 ∧ b ≠ gz13 ∧ b ≠ g25 ∧ obk x.2.1 x.1 x.2.2.1 ≠ some b) wz 32 x.2.1 x.2.2.1 x.1 ((((pget N (κ i)).args.map (tmF N κ m)).take x.1))) ∧ Blk wz g25 32 #[.int .i64 (pget N (κ i)).fn, .slice x.2.1 x.1 x.2.2.1] | [z0] => InT (fun b => w46.heap.size ≤ b) wz (tmF N κ m (aget (pget N (κ i)).args x.1)) z0 ∧ (∃ U2, (Reps U2 κ d ∧ U2.length = N.length) ∧ PR wz g S ((some ⟨ob, 0, none⟩), N.length, lc) ((some ⟨ub, 0, none⟩), N.length, uc) (some ⟨ob, 0, none⟩) lc N (some ⟨ub, 0, none⟩) uc U2 vb vc V) ∧ (RowD eltT (fun b => w.heap.size ≤ b ∧ b ≠ g2 ∧ b ≠ gz13 ∧ b ≠ g25 ∧ obk x.2.1 x.1 x.2.2.1 ≠ some b) wz 32 x.2.1 x.2.2.1 x.1 ((((pget N (κ i)).args.map (tmF N κ m)).take x.1))) ∧ Blk wz g25 32 #[.int .i64 (pget N (κ i)).fn, .slice x.2.1 x.1 x.2.2.1] | [_, z1] => (∃ g1 cs, z1 = .slice (some ⟨g1, 0, none⟩) 1 1 ∧ Blk wz g1 32 (List.toArray cs) ∧ eltT.In (fun b => w46.heap.size ≤ b) wz (tmF N κ m (aget (pget N (κ i)).args x.1)) cs) ∧ (∃ U2, (Reps U2 κ d ∧ U2.length = N.length) ∧ PR wz g S ((some ⟨ob, 0, none⟩), N.length, lc) ((some ⟨ub, 0, none⟩), N.length, uc) (some ⟨ob, 0, none⟩) lc N (some ⟨ub, 0, none⟩) uc U2 vb vc V) ∧ (RowD eltT (fun b => w.heap.size ≤ b ∧ b ≠ g2 ∧ b ≠ gz13 ∧ b ≠ g25 ∧ obk x.2.1 x.1 x.2.2.1 ≠ some b) wz 32 x.2.1 x.2.2.1 x.1 ((((pget N (κ i)).args.map (tmF N κ m)).take x.1))) ∧ Blk wz g25 32 #[.int .i64 (pget N (κ i)).fn, .slice x.2.1 x.1 x.2.2.1] | [_, _, z2] => ∃ ra2 rc2, z2 = .slice ra2 (x.1 + 1) rc2 ∧ (RowD eltT (fun b => w.heap.size ≤ b ∧ b ≠ g2 ∧ b ≠ gz13 ∧ b ≠ g25 ∧ obk ra2 ((x.1 + 1)) rc2 ≠ some b) wz 32 ra2 rc2 ((x.1 + 1)) (((((pget N (κ i)).args.map (tmF N κ m)).take x.1) ++ [(tmF N κ m (aget (pget N (κ i)).args x.1))]))) ∧ (∀ q, obk ra2 ((x.1 + 1)) rc2 = some q → w.heap.size ≤ q ∧ q ≠ g2 ∧ q ≠ gz13 ∧ q ≠ g25) ∧ (∃ U2, (Reps U2 κ d ∧ U2.length = N.length) ∧ PR wz g S ((some ⟨ob, 0, none⟩), N.length, lc) ((some ⟨ub, 0, none⟩), N.length, uc) (some ⟨ob, 0, none⟩) lc N (some ⟨ub, 0, none⟩) uc U2 vb vc V) ∧ Blk wz g25 32 #[.int .i64 (pget N (κ i)).fn, .slice x.2.1 x.1 x.2.2.1] | [_, _, z2, _] => ∃ ra2 rc2, z2 = .slice ra2 (x.1 + 1) rc2 ∧ (RowD eltT (fun b => w.heap.size ≤ b ∧ b ≠ g2 ∧ b ≠ gz13 ∧ b ≠ g25 ∧ obk ra2 ((x.1 + 1)) rc2 ≠ some b) wz 32 ra2 rc2 ((x.1 + 1)) (((((pget N (κ i)).args.map (tmF N κ m)).take x.1) ++ [(tmF N κ m (aget (pget N (κ i)).args x.1))]))) ∧ (∀ q, obk ra2 ((x.1 + 1)) rc2 = some q → w.heap.size ≤ q ∧ q ≠ g2 ∧ q ≠ gz13 ∧ q ≠ g25) ∧ (∃ U2, (Reps U2 κ d ∧ U2.length = N.length) ∧ PR wz g S ((some ⟨ob, 0, none⟩), N.length, lc) ((some ⟨ub, 0, none⟩), N.length, uc) (some ⟨ob, 0, none⟩) lc N (some ⟨ub, 0, none⟩) uc U2 vb vc V) ∧ Blk wz g25 32 #[.int .i64 (pget N (κ i)).fn, .slice ra2 (x.1 + 1) rc2] | _ => False) vals wb := by
     intro vals wa wb hb h
     match vals, h with
     | [], h => exact ⟨hng _ _ hb h.1, h.2.1.below hb, h.2.2.below hb⟩
     | [z0], h => exact ⟨h.1.below hb, hng _ _ hb h.2.1, h.2.2.1.below hb, h.2.2.2.below hb⟩
     | [_, z1], h =>
      obtain ⟨⟨g1, cs, e, k1, k2⟩, k3, k4, k5⟩ := h
      exact ⟨⟨g1, cs, e, k1.below hb, Elt.below (E := eltT) k2 hb⟩, hng _ _ hb k3, k4.below hb, k5.below hb⟩
     | [_, _, z2], h =>
      obtain ⟨ra2, rc2, e, k1, k2, k3, k4⟩ := h
      exact ⟨ra2, rc2, e, k1.below hb, k2, hng _ _ hb k3, k4.below hb⟩
     | [_, _, z2, _], h =>
      obtain ⟨ra2, rc2, e, k1, k2, k3, k4⟩ := h
      exact ⟨ra2, rc2, e, k1.below hb, k2, hng _ _ hb k3, k4.below hb⟩
    obtain ⟨b59, o60, ha61, hS62, hc63⟩ := InRow.openNS ho53
    have hSb64 := hS62 x.1 (by first | omega | (simp; omega))
    refine WC.seqV (S := ((fun b => b = ub ∨ obk x.2.1 x.1 x.2.2.1 = some b ∨ b = g25))) [(true, .val (.pointer (some ⟨g25, 1, none⟩))), (true, .val (.slice x.2.1 x.1 x.2.2.1)), (true, .val (.pointer (some ⟨g, 0, none⟩))), (true, .val (.pointer (some ⟨gz13, 1, none⟩))), (true, .val (.slice ((A9 ((κ i)))) ((pget N ((κ i))).args.length) ((C9 ((κ i)))))), (true, .val (.int .i64 (((x.1 : Nat) : Int)))), (true, .val (.pointer (some ⟨b59, o60 + x.1, none⟩))), (true, .val (.int .i64 ((((aget ((pget N (κ i)).args) x.1) : Nat) : Int)))), (true, .val undef), (true, .val undef), (true, .val undef), (true, .val (.pointer (some ⟨g25, 1, none⟩))), (true, .val undef)] [(0, .pointer (some ⟨g, 0, none⟩)), (1, .int .i64 (((i : Nat) : Int))), (4, .pointer (some ⟨g2, 0, none⟩)), (5, .pointer (some ⟨gz13, 0, none⟩)), (6, .pointer (some ⟨g25, 0, none⟩)), (7, .int .i64 (((x.1 : Nat) : Int))), (24, .bool ((decide ((((x.1 : Nat) : Int) : Int) < ((((pget N ((κ i))).args.length : Nat) : Int) : Int)))))] [8, 9, 10, 12] [none, none, none, none] (fun vals wz => match vals with | [] => (∃ U2, (Reps U2 κ d ∧ U2.length = N.length) ∧ PR wz g S ((some ⟨ob, 0, none⟩), N.length, lc) ((some ⟨ub, 0, none⟩), N.length, uc) (some ⟨ob, 0, none⟩) lc N (some ⟨ub, 0, none⟩) uc U2 vb vc V) ∧ (RowD eltT (fun b => w.heap.size ≤ b ∧ b ≠ g2 ∧ b ≠ gz13 ∧ b ≠ g25 ∧ obk x.2.1 x.1 x.2.2.1 ≠ some b) wz 32 x.2.1 x.2.2.1 x.1 ((((pget N (κ i)).args.map (tmF N κ m)).take x.1))) ∧ Blk wz g25 32 #[.int .i64 (pget N (κ i)).fn, .slice x.2.1 x.1 x.2.2.1] | [z0] => InT (fun b => w46.heap.size ≤ b) wz (tmF N κ m (aget (pget N (κ i)).args x.1)) z0 ∧ (∃ U2, (Reps U2 κ d ∧ U2.length = N.length) ∧ PR wz g S ((some ⟨ob, 0, none⟩), N.length, lc) ((some ⟨ub, 0, none⟩), N.length, uc) (some ⟨ob, 0, none⟩) lc N (some ⟨ub, 0, none⟩) uc U2 vb vc V) ∧ (RowD eltT (fun b => w.heap.size ≤ b ∧ b ≠ g2 ∧ b ≠ gz13 ∧ b ≠ g25 ∧ obk x.2.1 x.1 x.2.2.1 ≠ some b) wz 32 x.2.1 x.2.2.1 x.1 ((((pget N (κ i)).args.map (tmF N κ m)).take x.1))) ∧ Blk wz g25 32 #[.int .i64 (pget N (κ i)).fn, .slice x.2.1 x.1 x.2.2.1] | [_, z1] => (∃ g1 cs, z1 = .slice (some ⟨g1, 0, none⟩) 1 1 ∧ Blk wz g1 32 (List.toArray cs) ∧ eltT.In (fun b => w46.heap.size ≤ b) wz (tmF N κ m (aget (pget N (κ i)).args x.1)) cs) ∧ (∃ U2, (Reps U2 κ d ∧ U2.length = N.length) ∧ PR wz g S ((some ⟨ob, 0, none⟩), N.length, lc) ((some ⟨ub, 0, none⟩), N.length, uc) (some ⟨ob, 0, none⟩) lc N (some ⟨ub, 0, none⟩) uc U2 vb vc V) ∧ (RowD eltT (fun b => w.heap.size ≤ b ∧ b ≠ g2 ∧ b ≠ gz13 ∧ b ≠ g25 ∧ obk x.2.1 x.1 x.2.2.1 ≠ some b) wz 32 x.2.1 x.2.2.1 x.1 ((((pget N (κ i)).args.map (tmF N κ m)).take x.1))) ∧ Blk wz g25 32 #[.int .i64 (pget N (κ i)).fn, .slice x.2.1 x.1 x.2.2.1] | [_, _, z2] => ∃ ra2 rc2, z2 = .slice ra2 (x.1 + 1) rc2 ∧ (RowD eltT (fun b => w.heap.size ≤ b ∧ b ≠ g2 ∧ b ≠ gz13 ∧ b ≠ g25 ∧ obk ra2 ((x.1 + 1)) rc2 ≠ some b) wz 32 ra2 rc2 ((x.1 + 1)) (((((pget N (κ i)).args.map (tmF N κ m)).take x.1) ++ [(tmF N κ m (aget (pget N (κ i)).args x.1))]))) ∧ (∀ q, obk ra2 ((x.1 + 1)) rc2 = some q → w.heap.size ≤ q ∧ q ≠ g2 ∧ q ≠ gz13 ∧ q ≠ g25) ∧ (∃ U2, (Reps U2 κ d ∧ U2.length = N.length) ∧ PR wz g S ((some ⟨ob, 0, none⟩), N.length, lc) ((some ⟨ub, 0, none⟩), N.length, uc) (some ⟨ob, 0, none⟩) lc N (some ⟨ub, 0, none⟩) uc U2 vb vc V) ∧ Blk wz g25 32 #[.int .i64 (pget N (κ i)).fn, .slice x.2.1 x.1 x.2.2.1] | [_, _, z2, _] => ∃ ra2 rc2, z2 = .slice ra2 (x.1 + 1) rc2 ∧ (RowD eltT (fun b => w.heap.size ≤ b ∧ b ≠ g2 ∧ b ≠ gz13 ∧ b ≠ g25 ∧ obk ra2 ((x.1 + 1)) rc2 ≠ some b) wz 32 ra2 rc2 ((x.1 + 1)) (((((pget N (κ i)).args.map (tmF N κ m)).take x.1) ++ [(tmF N κ m (aget (pget N (κ i)).args x.1))]))) ∧ (∀ q, obk ra2 ((x.1 + 1)) rc2 = some q → w.heap.size ≤ q ∧ q ≠ g2 ∧ q ≠ gz13 ∧ q ≠ g25) ∧ (∃ U2, (Reps U2 κ d ∧ U2.length = N.length) ∧ PR wz g S ((some ⟨ob, 0, none⟩), N.length, lc) ((some ⟨ub, 0, none⟩), N.length, uc) (some ⟨ob, 0, none⟩) lc N (some ⟨ub, 0, none⟩) uc U2 vb vc V) ∧ Blk wz g25 32 #[.int .i64 (pget N (κ i)).fn, .slice ra2 (x.1 + 1) rc2] | _ => False) hGV9 (by decide) ⟨rfl, rfl, rfl, rfl, rfl, rfl, rfl, trivial⟩ (by kernel_rfl) (by kernel_rfl) (by kernel_rfl) (by kernel_rfl) (⟨⟨x.2.2.2, hRx, ho52⟩, ho54, hB51⟩) ?_ ?_
    ·refine ⟨.inl ⟨rfl, true, .none rfl, (fun gg b h => by cases h), fun h w => optUndef h, fun zβ za zw zc => ?_⟩, ?_⟩
     ·exact fld_32_1 rfl (zc.kn.ev rfl) ⟨_, rfl, Below.refl _ _, optDef zβ rfl⟩
     refine ⟨.inl ⟨rfl, true, .none rfl, (fun gg b h => by cases h), fun h w => optUndef h, fun zβ za zw zc => ?_⟩, ?_⟩
     ·obtain ⟨vals, hle, hgv, _⟩ := zc.early 2 10 rfl (by kernel_rfl)
      have hb5 : Blk zw g25 32 #[.int .i64 (pget N (κ i)).fn, .slice x.2.1 x.1 x.2.2.1] := by
       match vals, hle, hgv with
       | [], _, hg => exact hg.2.2
       | [z0], _, hg => exact hg.2.2.2
       | [_, z1], _, hg => exact hg.2.2.2
      exact ld_30 rfl ((evt za 27).trans (optSVal (zc.dep 0 27 (by kernel_rfl) (by decide)) rfl rfl)) ((hb5.cell 1).trans rfl) ⟨_, rfl, Below.refl _ _, optDef zβ rfl⟩
     refine ⟨.inl ⟨rfl, true, .none rfl, (fun gg b h => by cases h), fun h w => optUndef h, fun zβ za zw zc => ?_⟩, ?_⟩
     ·exact wp_move rfl (zc.kn.ev rfl) ⟨_, rfl, Below.refl _ _, optDef zβ rfl⟩
     refine ⟨.inl ⟨rfl, true, .none rfl, (fun gg b h => by cases h), fun h w => optUndef h, fun zβ za zw zc => ?_⟩, ?_⟩
     ·exact fld_69_1 rfl (zc.kn.ev rfl) ⟨_, rfl, Below.refl _ _, optDef zβ rfl⟩
     refine ⟨.inl ⟨rfl, true, .none rfl, (fun gg b h => by cases h), fun h w => optUndef h, fun zβ za zw zc => ?_⟩, ?_⟩
     ·exact ld_48 rfl ((evt za 30).trans (optSVal (zc.dep 3 30 (by kernel_rfl) (by decide)) rfl rfl)) (chg_cell zc.chg (by first | exact hSn _ (by assumption) | (intro e; rcases e with e | e | e; omega; exact (hownx _ e).2.2.1 rfl; omega) | ((try dsimp only at *); omega)) ((hB50.cell 1).trans rfl)) ⟨_, rfl, Below.refl _ _, optDef zβ rfl⟩
     refine ⟨.inl ⟨rfl, true, .none rfl, (fun gg b h => by cases h), fun h w => optUndef h, fun zβ za zw zc => ?_⟩, ?_⟩
     ·exact wp_move rfl (zc.kn.ev rfl) ⟨_, rfl, Below.refl _ _, optDef zβ rfl⟩
     refine ⟨.inl ⟨rfl, true, .none rfl, (fun gg b h => by cases h), fun h w => optUndef h, fun zβ za zw zc => ?_⟩, ?_⟩
     ·exact ix_48 (k := x.1) rfl ((evt za 31).trans (optSVal (zc.dep 4 31 (by kernel_rfl) (by decide)) rfl rfl)) (ha61 x.1 (by first | omega | (simp; omega))) ((evt za 32).trans (optSVal (zc.dep 5 32 (by kernel_rfl) (by decide)) rfl rfl)) (by first | omega | (simp; omega)) ⟨_, rfl, Below.refl _ _, optDef zβ rfl⟩
     refine ⟨.inl ⟨rfl, true, .none rfl, (fun gg b h => by cases h), fun h w => optUndef h, fun zβ za zw zc => ?_⟩, ?_⟩
     ·exact ld_3 rfl ((evt za 33).trans (optSVal (zc.dep 6 33 (by kernel_rfl) (by decide)) rfl rfl)) (chg_cell zc.chg (by first | exact hSn _ (by assumption) | (intro e; rcases e with e | e | e; omega; exact (hownx _ e).2.2.1 rfl; omega) | ((try dsimp only at *); omega)) (hc63 x.1 (by first | omega | (simp; omega)))) ⟨_, rfl, Below.refl _ _, optDef zβ rfl⟩
     refine ⟨.inr ⟨0, rfl, by kernel_rfl, true, .none rfl, (fun gg b h => by cases h), (fun h => (nomatch h)), fun zβ za zw zvals zc => ?_⟩, ?_⟩
     ·obtain rfl := vlen0 zc.len
      have zn := zc.now
      obtain ⟨⟨U2, k1, k2⟩, k3, k4⟩ := zn
      exact wp_call (by kernel_rfl) rfl (hv2 ((evt za 29).trans (optSVal (zc.dep 2 29 (by kernel_rfl) (by decide)) rfl rfl)) ((evt za 34).trans (optSVal (zc.dep 7 34 (by kernel_rfl) (by decide)) rfl rfl))) (ih U2 (aget (pget N (κ i)).args x.1) _ hdl k2 k1.2 k1.1 hal) (fun v w' h => by obtain ⟨m1, ⟨U3, m2, m3⟩, m4⟩ := h; exact ⟨v, rfl, m4.mono (fun b q => .inl q), ⟨m1.mono (fun b q _ => Nat.le_trans zc.chg.size q), ⟨U3, m2, m3⟩, k3.chg m4 (fun b q e => by have z := (hownx b q).1; (try dsimp only at e); omega) (fun b q e => by have z := q.1; (try dsimp only at e); omega), chg_blk k4 m4 (fun e => by (try dsimp only at e); omega)⟩, cvNo⟩)
     refine ⟨.inr ⟨1, rfl, by kernel_rfl, true, .none rfl, (fun gg b h => by cases h), (fun h => (nomatch h)), fun zβ za zw zvals zc => ?_⟩, ?_⟩
     ·obtain ⟨z0, rfl⟩ := vlen1 zc.len
      have zn := zc.now
      obtain ⟨k3, k4, k5, k6⟩ := zn
      have e0 : z0 = za.tmps.getD 35 undef := Option.some.inj (zc.val 0 8 35 rfl (by kernel_rfl))
      obtain ⟨_, fa, fc, ef, _⟩ := k3.form
      have k3b := k3
      rw [ef] at k3b
      exact row_30_1 rfl ((evt za 35).trans (e0.symm.trans ef)) ⟨_, rfl, .ofBelow (balloc _ _), ⟨⟨_, _, rfl, Blk.new' rfl, ⟨_, _, rfl, k3b.below (balloc _ _)⟩⟩, hng _ _ (balloc _ _) k4, k5.below (balloc _ _), k6.below (balloc _ _)⟩, cvNo⟩
     refine ⟨.inr ⟨2, rfl, by kernel_rfl, true, .none rfl, (fun gg b h => by cases h), (fun h => (nomatch h)), fun zβ za zw zvals zc => ?_⟩, ?_⟩
     ·obtain ⟨z0, z1, rfl⟩ := vlen2 zc.len
      have zn := zc.now
      obtain ⟨⟨g1, cs, e, k1, k2⟩, ⟨U2, k3, k4⟩, k5, k6⟩ := zn
      have e1 : z1 = za.tmps.getD 36 undef := Option.some.inj (zc.val 1 9 36 rfl (by kernel_rfl))
      have hsz := zc.chg.size
      exact wp_appD (E := eltT) (S2 := (fun b => w46.heap.size ≤ b)) (size := 2) (bytes := 32) (z := .agg #[.int .i64 0, .slice none 0 0]) rfl Try.underlying30 (by kernel_rfl) rfl (by decide) rfl ((evt za 28).trans (optSVal (zc.dep 1 28 (by kernel_rfl) (by decide)) rfl rfl)) ((evt za 36).trans (e1.symm.trans e)) k5 k1 k2 (fun b q q2 => by have z := hkw b q2; (try dsimp only at q); omega) (by omega) (by omega) (fun ra rc w' h1 h2 h3 => ⟨_, rfl, h2.mono (fun b q => .inr (.inl q)), ⟨ra, rc, rfl, h1.mono (fun b q _ => by
        obtain ⟨q1, q2⟩ := q
        rcases q1 with q1 | q1
        ·exact ⟨q1.1, q1.2.1, q1.2.2.1, q1.2.2.2.1, fun e9 => by rcases h3 b e9 with z | z; exact q1.2.2.2.2 z; omega⟩
        ·(try dsimp only at q1)
         exact ⟨by omega, by omega, by omega, by omega, fun e9 => by rcases h3 b e9 with z | z; (have z2 := hkw b z; omega); omega⟩) (fun b q => q.2.2.2.2), fun q e9 => by rcases h3 q e9 with z | z; exact hownx q z; (exact ⟨by omega, by omega, by omega, by omega⟩), ⟨U2, k3, k4.chg h2 (fun b q e9 => by have z := hlt0 b q; have z2 := (hownx b e9).1; omega)⟩, chg_blk k6 h2 (fun e9 => (hownx _ e9).2.2.2 rfl)⟩, cvNo⟩)
     refine ⟨.inl ⟨rfl, true, .none rfl, (fun gg b h => by cases h), fun h w => optUndef h, fun zβ za zw zc => ?_⟩, ?_⟩
     ·exact fld_32_1 rfl (zc.kn.ev rfl) ⟨_, rfl, Below.refl _ _, optDef zβ rfl⟩
     refine ⟨.inr ⟨3, rfl, by kernel_rfl, true, .none rfl, (fun gg b h => by cases h), (fun h => (nomatch h)), fun zβ za zw zvals zc => ?_⟩, ?_⟩
     ·obtain ⟨z0, z1, z2, rfl⟩ := vlen3 zc.len
      have zn := zc.now
      obtain ⟨ra2, rc2, e, k1, k2, ⟨U2, k3, k4⟩, k5⟩ := zn
      have e2 : z2 = za.tmps.getD 37 undef := Option.some.inj (zc.val 2 10 37 rfl (by kernel_rfl))
      exact st_30 rfl ((evt za 38).trans (optSVal (zc.dep 11 38 (by kernel_rfl) (by decide)) rfl rfl)) ((evt za 37).trans (e2.symm.trans e)) k5 (by first | decide | simp) (fun v => ⟨v, rfl, .ofUpd (Upd.at_ _ _ _ _) (.inr (.inr rfl)), ⟨ra2, rc2, e, k1.chg (.ofUpd (S := fun b => b = g25) (Upd.at_ _ _ _ _) rfl) (fun b q e9 => (k2 b q).2.2.2 e9) (fun b q e9 => q.2.2.2.1 e9), k2, ⟨U2, k3, k4.upd (Upd.at_ _ _ _ _) (fun q => by have z := hlt0 _ q; omega)⟩, k5.set_ 1 _⟩, cvNo⟩)
     exact trivial
    ·intro za w65 zvals zh zl hG66 hc67 zu zw zk
     obtain ⟨z0, z1, z2, z3, rfl⟩ := vlen4 zl
     obtain ⟨ra9, rc9, e9, k91, hown9, ⟨U9, hR9, hP9⟩, k94⟩ := hG66
     have hC68 : Chg (fun b => b = ub) w w65 := chg_fresh hCx hc67 (fun b q => by rcases q with q | q | q; exact .inl q; exact .inr (hownx b q).1; (right; omega))
     have ha69 := ho53.chgS hc67 (fun b q e => by rcases e with e | e | e; exact hSub b q e; (have z := hSlt b q; have z2 := (hownx b e).1; omega); (have z := hSlt b q; omega))
     have hB70 := chg_blk hB49 hc67 (fun e => by rcases e with e | e | e; omega; exact (hownx _ e).2.1 rfl; omega)
     have hB71 := chg_blk hB50 hc67 (fun e => by rcases e with e | e | e; omega; exact (hownx _ e).2.2.1 rfl; omega)
     clear zu zw zk
     refine WE.go zh ?_
     refine WE.blockNormal (WE.next (WC.region (WL.mv rfl rfl rfl rfl rfl ?_)))
     refine WL.val (.int .i64 ((((x.1 + 1) : Nat) : Int))) rfl rfl rfl (fun za zC zh zk => addb_3 rfl (zh.ev rfl) (zh.ev rfl) (wrap_eq (by omega) (by omega) (by omega)) zk) ?_
     refine WL.asg rfl rfl rfl rfl rfl (WL.nil ?_)
     refine WE.round ((x.1 + 1, ra9, rc9, U9)) ⟨rfl, rfl, rfl, rfl, rfl, rfl, trivial⟩ ?_ ?_
     ·exact ⟨(by (try dsimp only); omega), hR9, hown9, hC68, hB70, hB71, k94, hP9, ha69, (by rw [show (((pget N (κ i)).args.map (tmF N κ m)).take (x.1 + 1)) = (((pget N (κ i)).args.map (tmF N κ m)).take x.1) ++ [tmF N κ m (aget (pget N (κ i)).args x.1)] from hLs]; exact k91)⟩
     ·(try dsimp only); omega
   ·have h55 : ¬ ((((x.1 : Nat) : Int) : Int) < ((((pget N ((κ i))).args.length : Nat) : Int) : Int)) := by simpa using h55
    refine WC.exit (WE.thenExit (WE.thenExit (WE.blockIs rfl (WE.next (WC.seq (WC.region ?_))))))
    refine WL.val _ rfl rfl rfl (fun za zC zh zk => ld_32 rfl (zh.ev rfl) ((hB51.cell 0).trans rfl) ((hB51.cell 1).trans rfl) zk) ?_
    refine WL.step (post := fun _ w' => Upd g2 w46 w' ∧ Blk w' g2 32 #[.int .i64 ((pget N (κ i)).fn), .slice x.2.1 x.1 x.2.2.1]) rfl rfl rfl (fun za zC zh zk => st_32 rfl (zh.ev rfl) (zh.ev rfl) rfl rfl hB49 (by first | decide | simp) (fun v => zk v _ ⟨(Upd.at_ _ _ _ _).trans (Upd.at_ _ _ _ _), (hB49.set_ 0 _).set_ 1 _⟩)) ?_
    rintro v75 w72 ⟨hu73, hB74⟩
    have hB76 := upd_blk hB50 hu73 (by omega)
    have hB77 := upd_blk hB51 hu73 (by omega)
    refine WL.nil (WE.next (WC.ret ?_))
    refine WE.retAny (v := .agg #[.int .i64 ((pget N (κ i)).fn), .slice x.2.1 x.1 x.2.2.1]) (fun za zh => ?_) ?_
    ·have z0 : za.tmps[4]?.getD undef = .pointer (some ⟨g2, 0, none⟩) := by rw [← Array.getD_eq_getD_getElem?]; exact zh.knows 4 _ rfl
     have y0_0 : w72.cell? ⟨g2, 0, none⟩ = some (.int .i64 ((pget N (κ i)).fn)) := ((hB74.cell 0).trans rfl)
     have y0_1 : w72.cell? ⟨g2, 1, none⟩ = some (.slice x.2.1 x.1 x.2.2.1) := ((hB74.cell 1).trans rfl)
     simp [results, Try.results29, z0, y0_0, y0_1, go_sem]
    ·have hs78 : Chg ((fun b => b = g2)) w46 w72 := (Chg.trans2 (Chg.refl ((fun b => b = g2)) _) (Chg.ofUpd (S := fun k => k = g2) hu73 rfl) (fun i h1 h2 => by first | exact h2 | exact .inl ⟨h2, h1⟩ | exact .inl h2 | exact .inr h2 | exact .inr (.inl h2) | exact .inr (.inr h2) | ((try dsimp only at *); omega)))
     have hxk : x.1 = (pget N (κ i)).args.length := by omega
     have hr9 := ho54.chg hs78 (fun b q e => (hownx b q).2.1 e) (fun b q e => q.2.1 e)
     rw [List.take_of_length_le (by rw [List.length_map]; omega)] at hr9
     exact ⟨_, rfl, inT_rowT hf hr9 (fun b q => q.1) (fun b q => (hownx b q).1), ⟨x.2.2.2, hRx, ho52.chg hs78 (fun b q e => by have z := hlt0 b q; (try dsimp only at e); omega)⟩, chg_fresh hCx hs78 (fun b e => by right; (try dsimp only at e); omega)⟩
end Go.Proofs.Ythhgidliopohcaa

/- Sizes, depths, variables: the document's program. -/
namespace Go.Proofs.Ythhgidliopohcaa
open Go.RowKit Go
set_option linter.unusedVariables false
set_option linter.unusedSimpArgs false
set_option maxRecDepth 100000 in
theorem rsize_any : ∀ (t : T) (w : World) (v : Value), t.size ≤ 4294967296 → IsT w t v → Calls Try.prog 16 #[v] w (Ret fun v' w' => v' = .int .i64 (t.size : Nat) ∧ Below w.heap.size w w') := by
  refine T.ind (fun f l ih => ?_)
  intro w v hz hv
  have hv0 := hv
  have hlen := len_le_sizeL l
  have hz' := hz
  simp only [T.size] at hz'
  obtain ⟨hf, a, c, rfl, hc, hm, hl⟩ := hv
  have hf' := hf
  unfold I64 at hf'
  refine Calls.walk (l := [.agg #[.int .i64 f, .slice a l.length c]]) Try.func16 rfl (by kernel_rfl) ?_
  refine WC.sub (K' := [(0, .agg #[.int .i64 f, .slice a l.length c])]) ⟨rfl, trivial⟩ ?_
  refine WC.seq ?_
  refine WC.region ?_
  refine WL.step (post := NewBlk w 32 #[.int .i64 f, .slice a l.length c]) rfl rfl rfl (fun za zC zh zk => box_32 rfl (zh.ev rfl) (zk _ _ (newBlk _ _ _))) ?_
  rintro _ w1 ⟨g2, rfl, hg3, hB4, hb5, hz6⟩
  have hl7 : w.heap.size ≤ g2 := by omega
  refine WL.asg rfl rfl rfl rfl rfl ?_
  refine WL.nil ?_
  refine WE.next ?_
  refine WC.seq ?_
  refine WC.region ?_
  refine WL.asg rfl rfl rfl rfl rfl ?_
  refine WL.nil ?_
  refine WE.next ?_
  refine WC.seq ?_
  refine WC.seq ?_
  refine WC.region ?_
  refine WL.asg rfl rfl rfl rfl rfl ?_
  refine WL.nil ?_
  refine WE.next ?_
  refine WC.block ?_
  refine WC.loop (X := Nat) (fun k => l.length - k) (fun k => [(0, .agg #[.int .i64 f, .slice a l.length c]), (1, .pointer (some ⟨g2, 0, none⟩)), (2, .int .i64 0), (3, .int .i64 ((((1 + T.sizeL (l.take k)) : Nat) : Int))), (4, .int .i64 (((k : Nat) : Int)))]) (fun k w8 => k ≤ l.length ∧ Below w.heap.size w w8 ∧ Blk w8 g2 32 #[.int .i64 f, .slice a l.length c]) 0 ⟨rfl, rfl, rfl, rfl, rfl, trivial⟩ ?_ ?_
  · exact ⟨Nat.zero_le _, hb5, hB4⟩
  · rintro k w8 ⟨hk, hb9, hB10⟩
    refine WC.seq ?_
    refine WC.seq ?_
    refine WC.region ?_
    refine WL.mv rfl rfl rfl rfl rfl ?_
    refine WL.val _ rfl rfl rfl (fun za zC zh zk => fld_32_1 rfl (zh.ev rfl) zk) ?_
    refine WL.val _ rfl rfl rfl (fun za zC zh zk => ld_30 rfl (zh.ev rfl) ((hB10.cell 1).trans rfl) zk) ?_
    refine WL.val (.int .i64 (((l.length : Nat) : Int))) rfl rfl rfl (fun za zC zh zk => len_30 rfl (zh.ev rfl) zk) ?_
    refine WL.val (.bool ((decide ((((k : Nat) : Int) : Int) < (((l.length : Nat) : Int) : Int))))) rfl rfl rfl (fun za zC zh zk => lss_3 rfl (zh.ev rfl) (zh.ev rfl) zk) ?_
    refine WL.nil ?_
    refine WE.next ?_
    refine WC.cond rfl (fun h11 => ?_) (fun h11 => ?_)
    · have h11 : (((k : Nat) : Int) : Int) < (((l.length : Nat) : Int) : Int) := by simpa using h11
      refine WC.skip ?_
      refine WE.next ?_
      refine WC.seq ?_
      refine WC.block ?_
      refine WC.region ?_
      refine WL.mv rfl rfl rfl rfl rfl ?_
      refine WL.val _ rfl rfl rfl (fun za zC zh zk => fld_32_1 rfl (zh.ev rfl) zk) ?_
      refine WL.val _ rfl rfl rfl (fun za zC zh zk => ld_30 rfl (zh.ev rfl) ((hB10.cell 1).trans rfl) zk) ?_
      refine WL.mv rfl rfl rfl rfl rfl ?_
      obtain ⟨b12, o13, A14, C15, ha16, hc17⟩ := IsTs.open hl
      refine WL.val _ rfl rfl rfl (fun za zC zh zk => ix_30 (k := k) rfl (zh.ev rfl) (ha16 k (by first | omega | (simp; omega))) (zh.ev rfl) (by first | omega | (simp; omega)) zk) ?_
      refine WL.val _ rfl rfl rfl (fun za zC zh zk => ld_32 rfl (zh.ev rfl) (bkeeps hb9 _ _ (hc17 k (by first | omega | (simp; omega))).1) (bkeeps hb9 _ _ (hc17 k (by first | omega | (simp; omega))).2.1) zk) ?_
      refine WL.call rfl rfl rfl (fun za zh zC => wp_call (by kernel_rfl) rfl (hv1 (zh.ev rfl))) (ih _ (tget_mem (by omega)) _ _ (size_at (by omega) hz) (IsT.below hb9 (hc17 k (by first | omega | (simp; omega))).2.2)) ?_
      rintro _ w19 ⟨rfl, hq18⟩
      refine WL.val (.int .i64 ((((1 + T.sizeL (l.take (k + 1))) : Nat) : Int))) rfl rfl rfl (fun za zC zh zk => addb_3 rfl (zh.ev rfl) (zh.ev rfl) (wrap_eq (by rw [sizeL_take1 (by omega)]; omega) (by omega) (by have z := sizeL_take1 (l := l) (k := k) (by omega); have z2 := T.sizeL_take_le l (k + 1); omega)) zk) ?_
      refine WL.asg rfl rfl rfl rfl rfl ?_
      refine WL.nil ?_
      refine WE.blockNormal ?_
      refine WE.next ?_
      refine WC.region ?_
      refine WL.mv rfl rfl rfl rfl rfl ?_
      refine WL.val (.int .i64 ((((k + 1) : Nat) : Int))) rfl rfl rfl (fun za zC zh zk => addb_3 rfl (zh.ev rfl) (zh.ev rfl) (wrap_eq (by omega) (by omega) (by omega)) zk) ?_
      refine WL.asg rfl rfl rfl rfl rfl ?_
      refine WL.nil ?_
      refine WE.round (k + 1) ⟨rfl, rfl, rfl, rfl, rfl, trivial⟩ ?_ ?_
      · have hb20 : Below w.heap.size w w19 := (bstep hb9 hq18)
        have hB21 := hB10.below hq18
        exact ⟨by omega, hb20, hB21⟩
      · omega
    · have h11 : ¬ ((((k : Nat) : Int) : Int) < (((l.length : Nat) : Int) : Int)) := by simpa using h11
      refine WC.exit ?_
      refine WE.thenExit ?_
      refine WE.thenExit ?_
      refine WE.blockIs rfl ?_
      refine WE.next ?_
      refine WC.seq ?_
      refine WC.region ?_
      refine WL.mv rfl rfl rfl rfl rfl ?_
      refine WL.asg rfl rfl rfl rfl rfl ?_
      refine WL.nil ?_
      refine WE.next ?_
      refine WC.ret ?_
      refine WE.ret1 rfl rfl ?_
      refine ⟨_, rfl, ?_, hb9⟩
      rw [List.take_of_length_le (show l.length ≤ k by omega), T.size]
theorem wp_max2 {P : Program} {w : World} {a : Act} {K : Act → World → Prop} {Q : Exit → Act → World → Prop} {o : Oper} {x y : Operand} {m n r : Int} (ho : o.op = .call { callee := .builtin .max, args := #[x, y], argTypes := #[3, 3] }) (hx : a.eval x = .int .i64 m) (hy : a.eval y = .int .i64 n) (hr : r = max m n) (hK : K (a.put o.dst (.int .i64 r)) w) : o.wp P a w K Q := by
  subst hr
  unfold Oper.wp execOp
  simp only [ho, resolve, invoke, builtin, Sem.run_bind, Sem.run_pure, Result.andThen_ok, List.map_toArray, List.map_cons, List.map_nil, hx, hy]
  go_simp
  first
  | exact hK
  | (have e : max m n = (if m < n then n else m) := by omega
     rw [e] at hK; exact hK)
set_option maxRecDepth 100000 in
theorem rdepth_any : ∀ (t : T) (w : World) (v : Value), t.size ≤ 4294967296 → IsT w t v → Calls Try.prog 31 #[v] w (Ret fun v' w' => v' = .int .i64 (t.dep : Nat) ∧ Below w.heap.size w w') := by
  refine T.ind (fun f l ih => ?_)
  intro w v hz hv
  have hv0 := hv
  have hlen := len_le_sizeL l
  have hz' := hz
  simp only [T.size] at hz'
  obtain ⟨hf, a, c, rfl, hc, hm, hl⟩ := hv
  have hf' := hf
  unfold I64 at hf'
  refine Calls.walk (l := [.agg #[.int .i64 f, .slice a l.length c]]) Try.func31 rfl (by kernel_rfl) ?_
  refine WC.sub (K' := [(0, .agg #[.int .i64 f, .slice a l.length c])]) ⟨rfl, trivial⟩ ?_
  refine WC.seq ?_
  refine WC.region ?_
  refine WL.step (post := NewBlk w 32 #[.int .i64 f, .slice a l.length c]) rfl rfl rfl (fun za zC zh zk => box_32 rfl (zh.ev rfl) (zk _ _ (newBlk _ _ _))) ?_
  rintro _ w1 ⟨g2, rfl, hg3, hB4, hb5, hz6⟩
  have hl7 : w.heap.size ≤ g2 := by omega
  refine WL.asg rfl rfl rfl rfl rfl ?_
  refine WL.nil ?_
  refine WE.next ?_
  refine WC.seq ?_
  refine WC.region ?_
  refine WL.asg rfl rfl rfl rfl rfl ?_
  refine WL.nil ?_
  refine WE.next ?_
  refine WC.seq ?_
  refine WC.seq ?_
  refine WC.region ?_
  refine WL.asg rfl rfl rfl rfl rfl ?_
  refine WL.nil ?_
  refine WE.next ?_
  refine WC.block ?_
  refine WC.loop (X := Nat) (fun k => l.length - k) (fun k => [(0, .agg #[.int .i64 f, .slice a l.length c]), (1, .pointer (some ⟨g2, 0, none⟩)), (2, .int .i64 0), (3, .int .i64 ((((T.depL (l.take k)) : Nat) : Int))), (4, .int .i64 (((k : Nat) : Int)))]) (fun k w8 => k ≤ l.length ∧ Below w.heap.size w w8 ∧ Blk w8 g2 32 #[.int .i64 f, .slice a l.length c]) 0 ⟨rfl, rfl, rfl, rfl, rfl, trivial⟩ ?_ ?_
  · exact ⟨Nat.zero_le _, hb5, hB4⟩
  · rintro k w8 ⟨hk, hb9, hB10⟩
    refine WC.seq ?_
    refine WC.seq ?_
    refine WC.region ?_
    refine WL.mv rfl rfl rfl rfl rfl ?_
    refine WL.val _ rfl rfl rfl (fun za zC zh zk => fld_32_1 rfl (zh.ev rfl) zk) ?_
    refine WL.val _ rfl rfl rfl (fun za zC zh zk => ld_30 rfl (zh.ev rfl) ((hB10.cell 1).trans rfl) zk) ?_
    refine WL.val (.int .i64 (((l.length : Nat) : Int))) rfl rfl rfl (fun za zC zh zk => len_30 rfl (zh.ev rfl) zk) ?_
    refine WL.val (.bool ((decide ((((k : Nat) : Int) : Int) < (((l.length : Nat) : Int) : Int))))) rfl rfl rfl (fun za zC zh zk => lss_3 rfl (zh.ev rfl) (zh.ev rfl) zk) ?_
    refine WL.nil ?_
    refine WE.next ?_
    refine WC.cond rfl (fun h11 => ?_) (fun h11 => ?_)
    · have h11 : (((k : Nat) : Int) : Int) < (((l.length : Nat) : Int) : Int) := by simpa using h11
      refine WC.skip ?_
      refine WE.next ?_
      refine WC.seq ?_
      refine WC.block ?_
      refine WC.region ?_
      refine WL.mv rfl rfl rfl rfl rfl ?_
      refine WL.val _ rfl rfl rfl (fun za zC zh zk => fld_32_1 rfl (zh.ev rfl) zk) ?_
      refine WL.val _ rfl rfl rfl (fun za zC zh zk => ld_30 rfl (zh.ev rfl) ((hB10.cell 1).trans rfl) zk) ?_
      refine WL.mv rfl rfl rfl rfl rfl ?_
      obtain ⟨b12, o13, A14, C15, ha16, hc17⟩ := IsTs.open hl
      refine WL.val _ rfl rfl rfl (fun za zC zh zk => ix_30 (k := k) rfl (zh.ev rfl) (ha16 k (by first | omega | (simp; omega))) (zh.ev rfl) (by first | omega | (simp; omega)) zk) ?_
      refine WL.val _ rfl rfl rfl (fun za zC zh zk => ld_32 rfl (zh.ev rfl) (bkeeps hb9 _ _ (hc17 k (by first | omega | (simp; omega))).1) (bkeeps hb9 _ _ (hc17 k (by first | omega | (simp; omega))).2.1) zk) ?_
      refine WL.call rfl rfl rfl (fun za zh zC => wp_call (by kernel_rfl) rfl (hv1 (zh.ev rfl))) (ih _ (tget_mem (by omega)) _ _ (size_at (by omega) hz) (IsT.below hb9 (hc17 k (by first | omega | (simp; omega))).2.2)) ?_
      rintro _ w19 ⟨rfl, hq18⟩
      refine WL.val (.int .i64 ((T.depL (l.take (k + 1)) : Nat) : Int)) rfl rfl rfl (fun za zC zh zk => wp_max2 rfl (zh.ev rfl) (zh.ev rfl) (by rw [depL_take (by omega)]; (try omega)) zk) ?_
      refine WL.asg rfl rfl rfl rfl rfl ?_
      refine WL.nil ?_
      refine WE.blockNormal ?_
      refine WE.next ?_
      refine WC.region ?_
      refine WL.mv rfl rfl rfl rfl rfl ?_
      refine WL.val (.int .i64 ((((k + 1) : Nat) : Int))) rfl rfl rfl (fun za zC zh zk => addb_3 rfl (zh.ev rfl) (zh.ev rfl) (wrap_eq (by omega) (by omega) (by omega)) zk) ?_
      refine WL.asg rfl rfl rfl rfl rfl ?_
      refine WL.nil ?_
      refine WE.round (k + 1) ⟨rfl, rfl, rfl, rfl, rfl, trivial⟩ ?_ ?_
      · have hb20 : Below w.heap.size w w19 := (bstep hb9 hq18)
        have hB21 := hB10.below hq18
        exact ⟨by omega, hb20, hB21⟩
      · omega
    · have h11 : ¬ ((((k : Nat) : Int) : Int) < (((l.length : Nat) : Int) : Int)) := by simpa using h11
      refine WC.exit ?_
      refine WE.thenExit ?_
      refine WE.thenExit ?_
      refine WE.blockIs rfl ?_
      refine WE.next ?_
      refine WC.seq ?_
      refine WC.region ?_
      refine WL.mv rfl rfl rfl rfl rfl ?_
      refine WL.val (.int .i64 ((((T.depL (l.take k) + 1) : Nat) : Int))) rfl rfl rfl (fun za zC zh zk => addb_3 rfl (zh.ev rfl) (zh.ev rfl) (wrap_eq (by omega) (by omega) (by have z2 := depL_take_le (l := l) (k := k); omega)) zk) ?_
      refine WL.asg rfl rfl rfl rfl rfl ?_
      refine WL.nil ?_
      refine WE.next ?_
      refine WC.ret ?_
      refine WE.ret1 rfl rfl ?_
      refine ⟨_, rfl, ?_, hb9⟩
      rw [List.take_of_length_le (show l.length ≤ k by omega), T.dep]
theorem neg_int {P : Program} {w : World} {a : Act} {K : Act → World → Prop} {Q : Exit → Act → World → Prop} {o : Oper} {x : Operand} {m r : Int} (ho : o.op = .unOp .neg 3 x) (hx : a.eval x = .int .i64 m) (hr : IntKind.i64.wrap (-m) = r) (hK : K (a.put o.dst (.int .i64 r)) w) : o.wp P a w K Q := by
  subst hr
  unfold Oper.wp execOp
  simp only [ho, hx]
  go_simp
  exact hK
set_option maxRecDepth 100000 in
theorem rlow_any (m : Int) (hm0 : 0 ≤ m ∧ m ≤ 1000000) : ∀ (t : T) (w : World) (v : Value), t.size ≤ 4294967296 → IsT w t v → Calls Try.prog 32 #[v, .int .i64 m] w (Ret fun v' w' => v' = .bool (t.low m) ∧ Below w.heap.size w w') := by
  refine T.ind (fun f l ih => ?_)
  intro w v hz hv
  have hv0 := hv
  have hlen := len_le_sizeL l
  have hz' := hz
  simp only [T.size] at hz'
  obtain ⟨hf, a, c, rfl, hc, hm, hl⟩ := hv
  have hf' := hf
  unfold I64 at hf'
  refine Calls.walk (l := [.agg #[.int .i64 f, .slice a l.length c], .int .i64 m]) Try.func32 rfl (by kernel_rfl) ?_
  refine WC.sub (K' := [(0, .agg #[.int .i64 f, .slice a l.length c]), (1, .int .i64 m)]) ⟨rfl, rfl, trivial⟩ ?_
  refine WC.seq ?_
  refine WC.region ?_
  refine WL.step (post := NewBlk w 32 #[.int .i64 f, .slice a l.length c]) rfl rfl rfl (fun za zC zh zk => box_32 rfl (zh.ev rfl) (zk _ _ (newBlk _ _ _))) ?_
  rintro _ w1 ⟨g2, rfl, hg3, hB4, hb5, hz6⟩
  have hl7 : w.heap.size ≤ g2 := by omega
  refine WL.asg rfl rfl rfl rfl rfl ?_
  refine WL.nil ?_
  refine WE.next ?_
  refine WC.seq ?_
  refine WC.seq ?_
  refine WC.region ?_
  refine WL.val _ rfl rfl rfl (fun za zC zh zk => fld_32_0 rfl (zh.ev rfl) zk) ?_
  refine WL.val _ rfl rfl rfl (fun za zC zh zk => ld_3 rfl (zh.ev rfl) ((hB4.cell 0).trans rfl) zk) ?_
  refine WL.val (.bool ((decide ((f : Int) < (0 : Int))))) rfl rfl rfl (fun za zC zh zk => lss_3 rfl (zh.ev rfl) (zh.ev rfl) zk) ?_
  refine WL.nil ?_
  refine WE.next ?_
  refine WC.cond rfl (fun h8 => ?_) (fun h8 => ?_)
  · have h8 : (f : Int) < (0 : Int) := by simpa using h8
    refine WC.seq ?_
    refine WC.opt [(true, .val (.pointer (some ⟨g2, 0, none⟩))), (true, .val (.int .i64 f)), (true, .val (.int .i64 m)), (true, .val (.int .i64 ((-m)))), (true, .val (.bool ((decide (((-m) : Int) ≤ (f : Int)))))), (true, .val (.bool ((decide (((-m) : Int) ≤ (f : Int)))))), ((true && (decide (((-m) : Int) ≤ (f : Int)))), .val (.pointer (some ⟨g2, 1, none⟩))), ((true && (decide (((-m) : Int) ≤ (f : Int)))), .val (.slice a l.length c)), ((true && (decide (((-m) : Int) ≤ (f : Int)))), .val (.int .i64 (((l.length : Nat) : Int)))), ((true && (decide (((-m) : Int) ≤ (f : Int)))), .val (.bool (((((l.length : Nat) : Int) : Int) == (0 : Int))))), (true, .val (.bool (((decide (((-m) : Int) ≤ (f : Int))) && ((((l.length : Nat) : Int) : Int) == (0 : Int)))))), (true, .val (.bool (((decide (((-m) : Int) ≤ (f : Int))) && ((((l.length : Nat) : Int) : Int) == (0 : Int))))))] [(0, .agg #[.int .i64 f, .slice a l.length c]), (1, .int .i64 m), (2, .pointer (some ⟨g2, 0, none⟩)), (8, .bool ((decide ((f : Int) < (0 : Int)))))] ⟨rfl, rfl, rfl, rfl, trivial⟩ (by kernel_rfl) (by kernel_rfl) (by kernel_rfl) ?_ ?_
    · refine ⟨⟨true, .none rfl, fun h w => optUndef h, fun zβ za zw zc => ?_⟩, ?_⟩
      · exact fld_32_0 rfl (zc.kn.ev rfl) ⟨_, rfl, Below.refl _ _, optDef zβ rfl⟩
      refine ⟨⟨true, .none rfl, fun h w => optUndef h, fun zβ za zw zc => ?_⟩, ?_⟩
      · exact ld_3 rfl ((evt za 9).trans (optVal (zc.dep 0 9 (by kernel_rfl)) rfl rfl)) (bkeeps zc.below _ _ ((hB4.cell 0).trans rfl)) ⟨_, rfl, Below.refl _ _, optDef zβ rfl⟩
      refine ⟨⟨true, .none rfl, fun h w => optUndef h, fun zβ za zw zc => ?_⟩, ?_⟩
      · exact wp_move rfl (zc.kn.ev rfl) ⟨_, rfl, Below.refl _ _, optDef zβ rfl⟩
      refine ⟨⟨true, .none rfl, fun h w => optUndef h, fun zβ za zw zc => ?_⟩, ?_⟩
      · exact neg_int rfl ((evt za 11).trans (optVal (zc.dep 2 11 (by kernel_rfl)) rfl rfl)) (wrap_eq rfl (by omega) (by omega)) ⟨_, rfl, Below.refl _ _, optDef zβ rfl⟩
      refine ⟨⟨true, .none rfl, fun h w => optUndef h, fun zβ za zw zc => ?_⟩, ?_⟩
      · exact geq_3 rfl ((evt za 10).trans (optVal (zc.dep 1 10 (by kernel_rfl)) rfl rfl)) ((evt za 12).trans (optVal (zc.dep 3 12 (by kernel_rfl)) rfl rfl)) ⟨_, rfl, Below.refl _ _, optDef zβ rfl⟩
      refine ⟨⟨true, .none rfl, fun h w => optUndef h, fun zβ za zw zc => ?_⟩, ?_⟩
      · exact wp_move rfl ((evt za 13).trans (optVal (zc.dep 4 13 (by kernel_rfl)) rfl rfl)) ⟨_, rfl, Below.refl _ _, optDef zβ rfl⟩
      refine ⟨⟨_, .yes (c := (decide (((-m) : Int) ≤ (f : Int)))) (d := true) rfl (fun v w h => h), fun h w => optUndef h, fun zβ za zw zc => ?_⟩, ?_⟩
      · exact fld_32_1 rfl (zc.kn.ev rfl) ⟨_, rfl, Below.refl _ _, optDef zβ rfl⟩
      refine ⟨⟨_, .yes (c := (decide (((-m) : Int) ≤ (f : Int)))) (d := true) rfl (fun v w h => h), fun h w => optUndef h, fun zβ za zw zc => ?_⟩, ?_⟩
      · exact ld_30 rfl ((evt za 15).trans (optVal (zc.dep 6 15 (by kernel_rfl)) rfl zβ)) (bkeeps zc.below _ _ ((hB4.cell 1).trans rfl)) ⟨_, rfl, Below.refl _ _, optDef zβ rfl⟩
      refine ⟨⟨_, .yes (c := (decide (((-m) : Int) ≤ (f : Int)))) (d := true) rfl (fun v w h => h), fun h w => optUndef h, fun zβ za zw zc => ?_⟩, ?_⟩
      · exact len_30 rfl ((evt za 16).trans (optVal (zc.dep 7 16 (by kernel_rfl)) rfl zβ)) ⟨_, rfl, Below.refl _ _, optDef zβ rfl⟩
      refine ⟨⟨_, .yes (c := (decide (((-m) : Int) ≤ (f : Int)))) (d := true) rfl (fun v w h => h), fun h w => optUndef h, fun zβ za zw zc => ?_⟩, ?_⟩
      · exact eql_3 rfl ((evt za 17).trans (optVal (zc.dep 8 17 (by kernel_rfl)) rfl zβ)) (zc.kn.ev rfl) ⟨_, rfl, Below.refl _ _, optDef zβ rfl⟩
      refine ⟨⟨true, .none rfl, fun h w => optUndef h, fun zβ za zw zc => ?_⟩, ?_⟩
      · exact wp_and rfl ((evt za 14).trans (optVal (zc.dep 5 14 (by kernel_rfl)) rfl rfl)) (fun hp => ((evt za 18).trans (optVal (zc.dep 9 18 (by kernel_rfl)) rfl (bMk zβ hp)))) ⟨_, rfl, Below.refl _ _, optDef zβ rfl⟩
      refine ⟨⟨true, .none rfl, fun h w => optUndef h, fun zβ za zw zc => ?_⟩, ?_⟩
      · exact wp_assign rfl ((evt za 19).trans (optVal (zc.dep 10 19 (by kernel_rfl)) rfl rfl)) ⟨_, rfl, Below.refl _ _, optDef zβ rfl⟩
      exact trivial
    · intro za w9 zh hb10 zu
      have zh := zh.cons (d := 4) (v := .bool (((decide (((-m) : Int) ≤ (f : Int))) && ((((l.length : Nat) : Int) : Int) == (0 : Int))))) (optVal (zu 11 4 (by kernel_rfl)) rfl rfl)
      clear zu
      refine WE.go zh ?_
      refine WE.next ?_
      refine WC.ret ?_
      refine WE.thenRet ?_
      refine WE.ret1 rfl rfl ?_
      have hb11 : Below w.heap.size w w9 := (bstep hb5 hb10)
      refine ⟨_, rfl, congrArg Value.bool ?_, hb11⟩
      rw [T.low, if_pos (by simpa using h8)]
      rw [Bool.eq_iff_iff]; (try simp); (try omega)
  · have h8 : ¬ ((f : Int) < (0 : Int)) := by simpa using h8
    refine WC.skip ?_
    refine WE.next ?_
    refine WC.seq ?_
    refine WC.seq ?_
    refine WC.region ?_
    refine WL.asg rfl rfl rfl rfl rfl ?_
    refine WL.nil ?_
    refine WE.next ?_
    refine WC.block ?_
    refine WC.loop (X := Nat) (fun k => l.length - k) (fun k => [(0, .agg #[.int .i64 f, .slice a l.length c]), (1, .int .i64 m), (2, .pointer (some ⟨g2, 0, none⟩)), (5, .int .i64 (((k : Nat) : Int))), (8, .bool ((decide ((f : Int) < (0 : Int)))))]) (fun k w12 => k ≤ l.length ∧ (∀ i, i < k → (tget l i).low m = true) ∧ Below w.heap.size w w12 ∧ Blk w12 g2 32 #[.int .i64 f, .slice a l.length c]) 0 ⟨rfl, rfl, rfl, rfl, rfl, trivial⟩ ?_ ?_
    · exact ⟨Nat.zero_le _, fun i h => absurd h (Nat.not_lt_zero i), hb5, hB4⟩
    · rintro k w12 ⟨hk, hE, hb13, hB14⟩
      refine WC.seq ?_
      refine WC.seq ?_
      refine WC.region ?_
      refine WL.mv rfl rfl rfl rfl rfl ?_
      refine WL.val _ rfl rfl rfl (fun za zC zh zk => fld_32_1 rfl (zh.ev rfl) zk) ?_
      refine WL.val _ rfl rfl rfl (fun za zC zh zk => ld_30 rfl (zh.ev rfl) ((hB14.cell 1).trans rfl) zk) ?_
      refine WL.val (.int .i64 (((l.length : Nat) : Int))) rfl rfl rfl (fun za zC zh zk => len_30 rfl (zh.ev rfl) zk) ?_
      refine WL.val (.bool ((decide ((((k : Nat) : Int) : Int) < (((l.length : Nat) : Int) : Int))))) rfl rfl rfl (fun za zC zh zk => lss_3 rfl (zh.ev rfl) (zh.ev rfl) zk) ?_
      refine WL.nil ?_
      refine WE.next ?_
      refine WC.cond rfl (fun h15 => ?_) (fun h15 => ?_)
      · have h15 : (((k : Nat) : Int) : Int) < (((l.length : Nat) : Int) : Int) := by simpa using h15
        refine WC.skip ?_
        refine WE.next ?_
        refine WC.seq ?_
        refine WC.block ?_
        refine WC.seq ?_
        refine WC.region ?_
        refine WL.val _ rfl rfl rfl (fun za zC zh zk => fld_32_1 rfl (zh.ev rfl) zk) ?_
        refine WL.val _ rfl rfl rfl (fun za zC zh zk => ld_30 rfl (zh.ev rfl) ((hB14.cell 1).trans rfl) zk) ?_
        refine WL.mv rfl rfl rfl rfl rfl ?_
        obtain ⟨b16, o17, A18, C19, ha20, hc21⟩ := IsTs.open hl
        refine WL.val _ rfl rfl rfl (fun za zC zh zk => ix_30 (k := k) rfl (zh.ev rfl) (ha20 k (by first | omega | (simp; omega))) (zh.ev rfl) (by first | omega | (simp; omega)) zk) ?_
        refine WL.val _ rfl rfl rfl (fun za zC zh zk => ld_32 rfl (zh.ev rfl) (bkeeps hb13 _ _ (hc21 k (by first | omega | (simp; omega))).1) (bkeeps hb13 _ _ (hc21 k (by first | omega | (simp; omega))).2.1) zk) ?_
        refine WL.mv rfl rfl rfl rfl rfl ?_
        refine WL.call rfl rfl rfl (fun za zh zC => wp_call (by kernel_rfl) rfl (hv2 (zh.ev rfl) (zh.ev rfl))) (ih _ (tget_mem (by omega)) _ _ (size_at (by omega) hz) (IsT.below hb13 (hc21 k (by first | omega | (simp; omega))).2.2)) ?_
        rintro _ w23 ⟨rfl, hq22⟩
        refine WL.val (.bool ((!((tget l k).low m)))) rfl rfl rfl (fun za zC zh zk => wp_not rfl (zh.ev rfl) zk) ?_
        refine WL.nil ?_
        refine WE.next ?_
        refine WC.cond rfl (fun h24 => ?_) (fun h24 => ?_)
        · have h24 : ¬ (((tget l k).low m) = true) := by simpa using h24
          refine WC.seq ?_
          refine WC.region ?_
          refine WL.asg rfl rfl rfl rfl rfl ?_
          refine WL.nil ?_
          refine WE.next ?_
          refine WC.ret ?_
          refine WE.blockRet ?_
          refine WE.thenRet ?_
          refine WE.thenRet ?_
          refine WE.blockRet ?_
          refine WE.thenRet ?_
          refine WE.ret1 rfl rfl ?_
          have hb25 : Below w.heap.size w w23 := (bstep hb13 hq22)
          exact ⟨_, rfl, congrArg Value.bool (low_no (k := k) (by simpa using h8) (by omega) (by simpa using h24)).symm, hb25⟩
        · have h24 : ¬ (¬ (((tget l k).low m) = true)) := by simpa using h24
          refine WC.skip ?_
          refine WE.blockNormal ?_
          refine WE.next ?_
          refine WC.region ?_
          refine WL.mv rfl rfl rfl rfl rfl ?_
          refine WL.val (.int .i64 ((((k + 1) : Nat) : Int))) rfl rfl rfl (fun za zC zh zk => addb_3 rfl (zh.ev rfl) (zh.ev rfl) (wrap_eq (by omega) (by omega) (by omega)) zk) ?_
          refine WL.asg rfl rfl rfl rfl rfl ?_
          refine WL.nil ?_
          refine WE.round (k + 1) ⟨rfl, rfl, rfl, rfl, rfl, trivial⟩ ?_ ?_
          · have hb26 : Below w.heap.size w w23 := (bstep hb13 hq22)
            have hB27 := hB14.below hq22
            exact ⟨by omega, fun i hi => by rcases Nat.lt_or_ge i k with q | q; exact hE i q; (obtain rfl : i = k := by omega); simpa using h24, hb26, hB27⟩
          · omega
      · have h15 : ¬ ((((k : Nat) : Int) : Int) < (((l.length : Nat) : Int) : Int)) := by simpa using h15
        refine WC.exit ?_
        refine WE.thenExit ?_
        refine WE.thenExit ?_
        refine WE.blockIs rfl ?_
        refine WE.next ?_
        refine WC.seq ?_
        refine WC.region ?_
        refine WL.asg rfl rfl rfl rfl rfl ?_
        refine WL.nil ?_
        refine WE.next ?_
        refine WC.ret ?_
        refine WE.ret1 rfl rfl ?_
        exact ⟨_, rfl, congrArg Value.bool (low_yes (by simpa using h8) (fun i hi => hE i (by omega))).symm, hb13⟩
set_option maxRecDepth 100000 in
theorem rsmall_any (t : T) (m : Int) (w : World) (v : Value) (hm0 : 0 ≤ m ∧ m ≤ 1000000) (hz : t.size ≤ 4294967296) (hv : IsT w t v) : Calls Try.prog 17 #[v, .int .i64 m] w (Ret fun v' w' => v' = .bool (t.small m) ∧ Below w.heap.size w w') := by
  have hv0 := hv
  obtain ⟨hf, a, c, rfl, _, _, _⟩ := hv.form
  refine Calls.walk (l := [.agg #[.int .i64 t.f, .slice a t.args.length c], .int .i64 m]) Try.func17 rfl (by kernel_rfl) ?_
  refine WC.sub (K' := [(0, .agg #[.int .i64 t.f, .slice a t.args.length c]), (1, .int .i64 m)]) ⟨rfl, rfl, trivial⟩ ?_
  refine WC.seq ?_
  refine WC.region ?_
  refine WL.step (post := NewBlk w 32 #[.int .i64 t.f, .slice a t.args.length c]) rfl rfl rfl (fun za zC zh zk => box_32 rfl (zh.ev rfl) (zk _ _ (newBlk _ _ _))) ?_
  rintro _ w1 ⟨g2, rfl, hg3, hB4, hb5, hz6⟩
  have hl7 : w.heap.size ≤ g2 := by omega
  refine WL.asg rfl rfl rfl rfl rfl ?_
  refine WL.nil ?_
  refine WE.next ?_
  refine WC.seq ?_
  refine WC.opt [(true, .val (.agg #[.int .i64 t.f, .slice a t.args.length c])), (true, .val (.int .i64 (((t.size : Nat) : Int)))), (true, .val (.bool ((decide ((((t.size : Nat) : Int) : Int) ≤ (300 : Int)))))), (true, .val (.bool ((decide ((((t.size : Nat) : Int) : Int) ≤ (300 : Int)))))), ((true && (decide ((((t.size : Nat) : Int) : Int) ≤ (300 : Int)))), .val (.agg #[.int .i64 t.f, .slice a t.args.length c])), ((true && (decide ((((t.size : Nat) : Int) : Int) ≤ (300 : Int)))), .val (.int .i64 (((t.dep : Nat) : Int)))), ((true && (decide ((((t.size : Nat) : Int) : Int) ≤ (300 : Int)))), .val (.bool ((decide ((((t.dep : Nat) : Int) : Int) ≤ (30 : Int)))))), (true, .val (.bool (((decide ((((t.size : Nat) : Int) : Int) ≤ (300 : Int))) && (decide ((((t.dep : Nat) : Int) : Int) ≤ (30 : Int))))))), (true, .val (.bool (((decide ((((t.size : Nat) : Int) : Int) ≤ (300 : Int))) && (decide ((((t.dep : Nat) : Int) : Int) ≤ (30 : Int))))))), ((true && ((decide ((((t.size : Nat) : Int) : Int) ≤ (300 : Int))) && (decide ((((t.dep : Nat) : Int) : Int) ≤ (30 : Int))))), .val (.agg #[.int .i64 t.f, .slice a t.args.length c])), ((true && ((decide ((((t.size : Nat) : Int) : Int) ≤ (300 : Int))) && (decide ((((t.dep : Nat) : Int) : Int) ≤ (30 : Int))))), .val (.int .i64 m)), ((true && ((decide ((((t.size : Nat) : Int) : Int) ≤ (300 : Int))) && (decide ((((t.dep : Nat) : Int) : Int) ≤ (30 : Int))))), .val (.bool ((t.low m)))), (true, .val (.bool ((((decide ((((t.size : Nat) : Int) : Int) ≤ (300 : Int))) && (decide ((((t.dep : Nat) : Int) : Int) ≤ (30 : Int)))) && (t.low m))))), (true, .val (.bool ((((decide ((((t.size : Nat) : Int) : Int) ≤ (300 : Int))) && (decide ((((t.dep : Nat) : Int) : Int) ≤ (30 : Int)))) && (t.low m)))))] [(0, .agg #[.int .i64 t.f, .slice a t.args.length c]), (1, .int .i64 m), (2, .pointer (some ⟨g2, 0, none⟩))] ⟨rfl, rfl, rfl, trivial⟩ (by kernel_rfl) (by kernel_rfl) (by kernel_rfl) ?_ ?_
  · refine ⟨⟨true, .none rfl, fun h w => optUndef h, fun zβ za zw zc => ?_⟩, ?_⟩
    · exact ld_32 rfl (zc.kn.ev rfl) (bkeeps zc.below _ _ ((hB4.cell 0).trans rfl)) (bkeeps zc.below _ _ ((hB4.cell 1).trans rfl)) ⟨_, rfl, Below.refl _ _, optDef zβ rfl⟩
    refine ⟨⟨true, .none rfl, fun h w => optUndef h, fun zβ za zw zc => ?_⟩, ?_⟩
    · exact wp_call (by kernel_rfl) rfl (hv1 ((evt za 5).trans (optVal (zc.dep 0 5 (by kernel_rfl)) rfl rfl))) (rsize_any t _ _ hz (IsT.below (bstep hb5 zc.below) hv0)) (fun v w' h => ⟨v, rfl, h.2, optDef zβ h.1⟩)
    refine ⟨⟨true, .none rfl, fun h w => optUndef h, fun zβ za zw zc => ?_⟩, ?_⟩
    · exact leq_3 rfl ((evt za 6).trans (optVal (zc.dep 1 6 (by kernel_rfl)) rfl rfl)) (zc.kn.ev rfl) ⟨_, rfl, Below.refl _ _, optDef zβ rfl⟩
    refine ⟨⟨true, .none rfl, fun h w => optUndef h, fun zβ za zw zc => ?_⟩, ?_⟩
    · exact wp_move rfl ((evt za 7).trans (optVal (zc.dep 2 7 (by kernel_rfl)) rfl rfl)) ⟨_, rfl, Below.refl _ _, optDef zβ rfl⟩
    refine ⟨⟨_, .yes (c := (decide ((((t.size : Nat) : Int) : Int) ≤ (300 : Int)))) (d := true) rfl (fun v w h => h), fun h w => optUndef h, fun zβ za zw zc => ?_⟩, ?_⟩
    · exact ld_32 rfl (zc.kn.ev rfl) (bkeeps zc.below _ _ ((hB4.cell 0).trans rfl)) (bkeeps zc.below _ _ ((hB4.cell 1).trans rfl)) ⟨_, rfl, Below.refl _ _, optDef zβ rfl⟩
    refine ⟨⟨_, .yes (c := (decide ((((t.size : Nat) : Int) : Int) ≤ (300 : Int)))) (d := true) rfl (fun v w h => h), fun h w => optUndef h, fun zβ za zw zc => ?_⟩, ?_⟩
    · exact wp_call (by kernel_rfl) rfl (hv1 ((evt za 9).trans (optVal (zc.dep 4 9 (by kernel_rfl)) rfl zβ))) (rdepth_any t _ _ hz (IsT.below (bstep hb5 zc.below) hv0)) (fun v w' h => ⟨v, rfl, h.2, optDef zβ h.1⟩)
    refine ⟨⟨_, .yes (c := (decide ((((t.size : Nat) : Int) : Int) ≤ (300 : Int)))) (d := true) rfl (fun v w h => h), fun h w => optUndef h, fun zβ za zw zc => ?_⟩, ?_⟩
    · exact leq_3 rfl ((evt za 10).trans (optVal (zc.dep 5 10 (by kernel_rfl)) rfl zβ)) (zc.kn.ev rfl) ⟨_, rfl, Below.refl _ _, optDef zβ rfl⟩
    refine ⟨⟨true, .none rfl, fun h w => optUndef h, fun zβ za zw zc => ?_⟩, ?_⟩
    · exact wp_and rfl ((evt za 8).trans (optVal (zc.dep 3 8 (by kernel_rfl)) rfl rfl)) (fun hp => ((evt za 11).trans (optVal (zc.dep 6 11 (by kernel_rfl)) rfl (bMk zβ hp)))) ⟨_, rfl, Below.refl _ _, optDef zβ rfl⟩
    refine ⟨⟨true, .none rfl, fun h w => optUndef h, fun zβ za zw zc => ?_⟩, ?_⟩
    · exact wp_move rfl ((evt za 12).trans (optVal (zc.dep 7 12 (by kernel_rfl)) rfl rfl)) ⟨_, rfl, Below.refl _ _, optDef zβ rfl⟩
    refine ⟨⟨_, .yes (c := ((decide ((((t.size : Nat) : Int) : Int) ≤ (300 : Int))) && (decide ((((t.dep : Nat) : Int) : Int) ≤ (30 : Int))))) (d := true) rfl (fun v w h => h), fun h w => optUndef h, fun zβ za zw zc => ?_⟩, ?_⟩
    · exact ld_32 rfl (zc.kn.ev rfl) (bkeeps zc.below _ _ ((hB4.cell 0).trans rfl)) (bkeeps zc.below _ _ ((hB4.cell 1).trans rfl)) ⟨_, rfl, Below.refl _ _, optDef zβ rfl⟩
    refine ⟨⟨_, .yes (c := ((decide ((((t.size : Nat) : Int) : Int) ≤ (300 : Int))) && (decide ((((t.dep : Nat) : Int) : Int) ≤ (30 : Int))))) (d := true) rfl (fun v w h => h), fun h w => optUndef h, fun zβ za zw zc => ?_⟩, ?_⟩
    · exact wp_move rfl (zc.kn.ev rfl) ⟨_, rfl, Below.refl _ _, optDef zβ rfl⟩
    refine ⟨⟨_, .yes (c := ((decide ((((t.size : Nat) : Int) : Int) ≤ (300 : Int))) && (decide ((((t.dep : Nat) : Int) : Int) ≤ (30 : Int))))) (d := true) rfl (fun v w h => h), fun h w => optUndef h, fun zβ za zw zc => ?_⟩, ?_⟩
    · exact wp_call (by kernel_rfl) rfl (hv2 ((evt za 14).trans (optVal (zc.dep 9 14 (by kernel_rfl)) rfl zβ)) ((evt za 15).trans (optVal (zc.dep 10 15 (by kernel_rfl)) rfl zβ))) (rlow_any m hm0 t _ _ hz (IsT.below (bstep hb5 zc.below) hv0)) (fun v w' h => ⟨v, rfl, h.2, optDef zβ h.1⟩)
    refine ⟨⟨true, .none rfl, fun h w => optUndef h, fun zβ za zw zc => ?_⟩, ?_⟩
    · exact wp_and rfl ((evt za 13).trans (optVal (zc.dep 8 13 (by kernel_rfl)) rfl rfl)) (fun hp => ((evt za 16).trans (optVal (zc.dep 11 16 (by kernel_rfl)) rfl (bMk zβ hp)))) ⟨_, rfl, Below.refl _ _, optDef zβ rfl⟩
    refine ⟨⟨true, .none rfl, fun h w => optUndef h, fun zβ za zw zc => ?_⟩, ?_⟩
    · exact wp_assign rfl ((evt za 17).trans (optVal (zc.dep 12 17 (by kernel_rfl)) rfl rfl)) ⟨_, rfl, Below.refl _ _, optDef zβ rfl⟩
    exact trivial
  · intro za w11 zh hb12 zu
    have zh := zh.cons (d := 4) (v := .bool ((((decide ((((t.size : Nat) : Int) : Int) ≤ (300 : Int))) && (decide ((((t.dep : Nat) : Int) : Int) ≤ (30 : Int)))) && (t.low m)))) (optVal (zu 13 4 (by kernel_rfl)) rfl rfl)
    clear zu
    refine WE.go zh ?_
    refine WE.next ?_
    refine WC.ret ?_
    refine WE.ret1 rfl rfl ?_
    have hb13 : Below w.heap.size w w11 := (bstep hb5 hb12)
    refine ⟨_, rfl, congrArg Value.bool ?_, hb13⟩
    unfold T.small
    rw [Bool.eq_iff_iff]; simp; omega
end Go.Proofs.Ythhgidliopohcaa

/- May pairs be asked? The document's program. -/
namespace Go.Proofs.Ythhgidliopohcaa
open Go.RowKit Go
set_option linter.unusedVariables false
set_option linter.unusedSimpArgs false
set_option maxRecDepth 100000 in
theorem rwide_any (l : List (T × T)) (w : World) (a : Option Addr) (c : Nat) (hl : IsPs w l a c) (hlz : l.length ≤ 1048576) (hsz : ∀ k, k < l.length → (prget l k).1.size ≤ 4294967296 ∧ (prget l k).2.size ≤ 4294967296) :
  Calls Try.prog 14 #[.slice a l.length c] w (Ret fun v' w' => v' = .bool (wideB l) ∧ Below w.heap.size w w') := by
 skip
 refine Calls.walk (l := [.slice a l.length c]) Try.func14 rfl (by kernel_rfl) ?_
 refine WC.sub (K' := [(0, .slice a l.length c)]) ⟨rfl, trivial⟩ ?_
 refine WC.seq (WC.region (WL.asg rfl rfl rfl rfl rfl (WL.nil (WE.next (WC.seq (WC.seq (WC.region (WL.mv rfl rfl rfl rfl rfl ?_))))))))
 refine WL.val (.int .i64 (((l.length : Nat) : Int))) rfl rfl rfl (fun za zC zh zk => len_22 rfl (zh.ev rfl) zk) ?_
 refine WL.val (.bool ((decide ((64 : Int) < (((l.length : Nat) : Int) : Int))))) rfl rfl rfl (fun za zC zh zk => gtr_3 rfl (zh.ev rfl) (zh.ev rfl) zk) ?_
 refine WL.nil (WE.next ?_)
 refine WC.cond rfl (fun h1 => ?_) (fun h1 => ?_)
 ·have h1 : (64 : Int) < (((l.length : Nat) : Int) : Int) := by simpa using h1
  refine WC.seq (WC.region (WL.asg rfl rfl rfl rfl rfl (WL.nil (WE.next (WC.ret (WE.thenRet (WE.ret1 rfl rfl ?_)))))))
  exact ⟨_, rfl, by rw [wide_len (by omega)], (Below.refl _ _)⟩
 ·have h1 : ¬ ((64 : Int) < (((l.length : Nat) : Int) : Int)) := by simpa using h1
  have h64 : l.length ≤ 64 := by omega
  refine WC.skip (WE.next (WC.seq (WC.seq (WC.region (WL.asg rfl rfl rfl rfl rfl (WL.nil (WE.next (WC.block ?_))))))))
  refine WC.loop (X := Nat) (fun p => l.length - p) (fun p => [(0, .slice a l.length c), (3, .int .i64 (((p : Nat) : Int))), (6, .bool ((decide ((64 : Int) < (((l.length : Nat) : Int) : Int)))))]) (fun p w2 => p ≤ l.length ∧ (∀ k, k < p → (prget l k).1.small 96 = true ∧ (prget l k).2.small 96 = true) ∧ Below w.heap.size w w2) 0 ⟨rfl, rfl, rfl, trivial⟩ ?_ ?_
  ·exact ⟨Nat.zero_le _, (fun k hk9 => absurd hk9 (Nat.not_lt_zero k)), (Below.refl _ _)⟩
  ·rintro p w2 ⟨hkp, hsm, hb3⟩
   refine WC.seq (WC.seq (WC.region (WL.mv rfl rfl rfl rfl rfl (WL.mv rfl rfl rfl rfl rfl ?_))))
   refine WL.val (.int .i64 (((l.length : Nat) : Int))) rfl rfl rfl (fun za zC zh zk => len_22 rfl (zh.ev rfl) zk) ?_
   refine WL.val (.bool ((decide ((((p : Nat) : Int) : Int) < (((l.length : Nat) : Int) : Int))))) rfl rfl rfl (fun za zC zh zk => lss_3 rfl (zh.ev rfl) (zh.ev rfl) zk) ?_
   refine WL.nil (WE.next ?_)
   refine WC.cond rfl (fun h4 => ?_) (fun h4 => ?_)
   ·have h4 : (((p : Nat) : Int) : Int) < (((l.length : Nat) : Int) : Int) := by simpa using h4
    refine WC.skip (WE.next (WC.seq (WC.block (WC.seq ?_))))
    obtain ⟨b5, o6, A7, C8, D9, E10, ha11, hc12⟩ := IsPs.open hl
    refine WC.opt [(true, .val (.slice a l.length c)), (true, .val (.int .i64 (((p : Nat) : Int)))), (true, .val (.pointer (some ⟨b5, o6 + p * 4, none⟩))), (true, .val (.pointer (some ⟨b5, o6 + p * 4, none⟩))), (true, .val (.agg #[.int .i64 ((prget l p).1.f), .slice ((A7 p)) ((prget l p).1.args.length) ((C8 p))])), (true, .val (.bool (((prget l p).1.small 96)))), (true, .val (.bool ((!((prget l p).1.small 96))))), (true, .val (.bool ((!((prget l p).1.small 96))))), ((true && !(!((prget l p).1.small 96))), .val (.slice a l.length c)), ((true && !(!((prget l p).1.small 96))), .val (.int .i64 (((p : Nat) : Int)))), ((true && !(!((prget l p).1.small 96))), .val (.pointer (some ⟨b5, o6 + p * 4, none⟩))), ((true && !(!((prget l p).1.small 96))), .val (.pointer (some ⟨b5, o6 + p * 4 + 2, none⟩))), ((true && !(!((prget l p).1.small 96))), .val (.agg #[.int .i64 ((prget l p).2.f), .slice ((D9 p)) ((prget l p).2.args.length) ((E10 p))])), ((true && !(!((prget l p).1.small 96))), .val (.bool (((prget l p).2.small 96)))), ((true && !(!((prget l p).1.small 96))), .val (.bool ((!((prget l p).2.small 96))))), (true, .val (.bool (((!((prget l p).1.small 96)) || (!((prget l p).2.small 96))))))] [(0, .slice a l.length c), (3, .int .i64 (((p : Nat) : Int))), (6, .bool ((decide ((64 : Int) < (((l.length : Nat) : Int) : Int))))), (10, .bool ((decide ((((p : Nat) : Int) : Int) < (((l.length : Nat) : Int) : Int)))))] ⟨rfl, rfl, rfl, rfl, trivial⟩ (by kernel_rfl) (by kernel_rfl) (by kernel_rfl) ?_ ?_
    ·refine ⟨⟨true, .none rfl, fun h w => optUndef h, fun zβ za zw zc => ?_⟩, ?_⟩
     ·exact wp_move rfl (zc.kn.ev rfl) ⟨_, rfl, Below.refl _ _, optDef zβ rfl⟩
     refine ⟨⟨true, .none rfl, fun h w => optUndef h, fun zβ za zw zc => ?_⟩, ?_⟩
     ·exact wp_move rfl (zc.kn.ev rfl) ⟨_, rfl, Below.refl _ _, optDef zβ rfl⟩
     refine ⟨⟨true, .none rfl, fun h w => optUndef h, fun zβ za zw zc => ?_⟩, ?_⟩
     ·exact ix_22 (k := p) rfl ((evt za 13).trans (optVal (zc.dep 0 13 (by kernel_rfl)) rfl rfl)) (ha11 p (by first | omega | (simp; omega))) ((evt za 14).trans (optVal (zc.dep 1 14 (by kernel_rfl)) rfl rfl)) (by first | omega | (simp; omega)) ⟨_, rfl, Below.refl _ _, optDef zβ rfl⟩
     refine ⟨⟨true, .none rfl, fun h w => optUndef h, fun zβ za zw zc => ?_⟩, ?_⟩
     ·exact ixa_33 (k := 0) rfl ((evt za 15).trans (optVal (zc.dep 2 15 (by kernel_rfl)) rfl rfl)) (zc.kn.ev rfl) (by decide) ⟨_, rfl, Below.refl _ _, optDef zβ rfl⟩
     refine ⟨⟨true, .none rfl, fun h w => optUndef h, fun zβ za zw zc => ?_⟩, ?_⟩
     ·exact ld_32 rfl ((evt za 16).trans (optVal (zc.dep 3 16 (by kernel_rfl)) rfl rfl)) (bkeeps (bstep hb3 zc.below) _ _ (hc12 p (by first | omega | (simp; omega))).1) (bkeeps (bstep hb3 zc.below) _ _ (hc12 p (by first | omega | (simp; omega))).2.1) ⟨_, rfl, Below.refl _ _, optDef zβ rfl⟩
     refine ⟨⟨true, .none rfl, fun h w => optUndef h, fun zβ za zw zc => ?_⟩, ?_⟩
     ·exact wp_call (by kernel_rfl) rfl (hv2 ((evt za 17).trans (optVal (zc.dep 4 17 (by kernel_rfl)) rfl rfl)) (zc.kn.ev rfl)) (rsmall_any ((prget l p).1) 96 _ _ (by omega) (hsz p (by omega)).1 (IsT.below (bstep hb3 zc.below) (hc12 p (by first | omega | (simp; omega))).2.2.2.2.1)) (fun v w' h => ⟨v, rfl, h.2, optDef zβ h.1⟩)
     refine ⟨⟨true, .none rfl, fun h w => optUndef h, fun zβ za zw zc => ?_⟩, ?_⟩
     ·exact wp_not rfl ((evt za 18).trans (optVal (zc.dep 5 18 (by kernel_rfl)) rfl rfl)) ⟨_, rfl, Below.refl _ _, optDef zβ rfl⟩
     refine ⟨⟨true, .none rfl, fun h w => optUndef h, fun zβ za zw zc => ?_⟩, ?_⟩
     ·exact wp_move rfl ((evt za 19).trans (optVal (zc.dep 6 19 (by kernel_rfl)) rfl rfl)) ⟨_, rfl, Below.refl _ _, optDef zβ rfl⟩
     refine ⟨⟨_, .no (c := (!((prget l p).1.small 96))) (d := true) rfl (fun v w h => h), fun h w => optUndef h, fun zβ za zw zc => ?_⟩, ?_⟩
     ·exact wp_move rfl (zc.kn.ev rfl) ⟨_, rfl, Below.refl _ _, optDef zβ rfl⟩
     refine ⟨⟨_, .no (c := (!((prget l p).1.small 96))) (d := true) rfl (fun v w h => h), fun h w => optUndef h, fun zβ za zw zc => ?_⟩, ?_⟩
     ·exact wp_move rfl (zc.kn.ev rfl) ⟨_, rfl, Below.refl _ _, optDef zβ rfl⟩
     refine ⟨⟨_, .no (c := (!((prget l p).1.small 96))) (d := true) rfl (fun v w h => h), fun h w => optUndef h, fun zβ za zw zc => ?_⟩, ?_⟩
     ·exact ix_22 (k := p) rfl ((evt za 21).trans (optVal (zc.dep 8 21 (by kernel_rfl)) rfl zβ)) (ha11 p (by first | omega | (have zz := zβ; simp only [Bool.and_eq_true, Bool.or_eq_true, Bool.true_and, Bool.not_eq_true', Bool.or_eq_false_iff, Bool.and_eq_false_iff, beq_eq_false_iff_ne, ne_eq, beq_iff_eq, decide_eq_true_eq, decide_eq_false_iff_not, bne_iff_ne, bne_eq_false_iff_eq] at zz; omega))) ((evt za 22).trans (optVal (zc.dep 9 22 (by kernel_rfl)) rfl zβ)) (by first | omega | (have zz := zβ; simp only [Bool.and_eq_true, Bool.or_eq_true, Bool.true_and, Bool.not_eq_true', Bool.or_eq_false_iff, Bool.and_eq_false_iff, beq_eq_false_iff_ne, ne_eq, beq_iff_eq, decide_eq_true_eq, decide_eq_false_iff_not, bne_iff_ne, bne_eq_false_iff_eq] at zz; omega)) ⟨_, rfl, Below.refl _ _, optDef zβ rfl⟩
     refine ⟨⟨_, .no (c := (!((prget l p).1.small 96))) (d := true) rfl (fun v w h => h), fun h w => optUndef h, fun zβ za zw zc => ?_⟩, ?_⟩
     ·exact ixa_33 (k := 1) rfl ((evt za 23).trans (optVal (zc.dep 10 23 (by kernel_rfl)) rfl zβ)) (zc.kn.ev rfl) (by decide) ⟨_, rfl, Below.refl _ _, optDef zβ rfl⟩
     refine ⟨⟨_, .no (c := (!((prget l p).1.small 96))) (d := true) rfl (fun v w h => h), fun h w => optUndef h, fun zβ za zw zc => ?_⟩, ?_⟩
     ·exact ld_32 rfl ((evt za 24).trans (optVal (zc.dep 11 24 (by kernel_rfl)) rfl zβ)) (bkeeps (bstep hb3 zc.below) _ _ (hc12 p (by first | omega | (have zz := zβ; simp only [Bool.and_eq_true, Bool.or_eq_true, Bool.true_and, Bool.not_eq_true', Bool.or_eq_false_iff, Bool.and_eq_false_iff, beq_eq_false_iff_ne, ne_eq, beq_iff_eq, decide_eq_true_eq, decide_eq_false_iff_not, bne_iff_ne, bne_eq_false_iff_eq] at zz; omega))).2.2.1) (bkeeps (bstep hb3 zc.below) _ _ (hc12 p (by first | omega | (have zz := zβ; simp only [Bool.and_eq_true, Bool.or_eq_true, Bool.true_and, Bool.not_eq_true', Bool.or_eq_false_iff, Bool.and_eq_false_iff, beq_eq_false_iff_ne, ne_eq, beq_iff_eq, decide_eq_true_eq, decide_eq_false_iff_not, bne_iff_ne, bne_eq_false_iff_eq] at zz; omega))).2.2.2.1) ⟨_, rfl, Below.refl _ _, optDef zβ rfl⟩
     refine ⟨⟨_, .no (c := (!((prget l p).1.small 96))) (d := true) rfl (fun v w h => h), fun h w => optUndef h, fun zβ za zw zc => ?_⟩, ?_⟩
     ·exact wp_call (by kernel_rfl) rfl (hv2 ((evt za 25).trans (optVal (zc.dep 12 25 (by kernel_rfl)) rfl zβ)) (zc.kn.ev rfl)) (rsmall_any ((prget l p).2) 96 _ _ (by omega) (hsz p (by omega)).2 (IsT.below (bstep hb3 zc.below) (hc12 p (by first | omega | (have zz := zβ; simp only [Bool.and_eq_true, Bool.or_eq_true, Bool.true_and, Bool.not_eq_true', Bool.or_eq_false_iff, Bool.and_eq_false_iff, beq_eq_false_iff_ne, ne_eq, beq_iff_eq, decide_eq_true_eq, decide_eq_false_iff_not, bne_iff_ne, bne_eq_false_iff_eq] at zz; omega))).2.2.2.2.2)) (fun v w' h => ⟨v, rfl, h.2, optDef zβ h.1⟩)
     refine ⟨⟨_, .no (c := (!((prget l p).1.small 96))) (d := true) rfl (fun v w h => h), fun h w => optUndef h, fun zβ za zw zc => ?_⟩, ?_⟩
     ·exact wp_not rfl ((evt za 26).trans (optVal (zc.dep 13 26 (by kernel_rfl)) rfl zβ)) ⟨_, rfl, Below.refl _ _, optDef zβ rfl⟩
     refine ⟨⟨true, .none rfl, fun h w => optUndef h, fun zβ za zw zc => ?_⟩, ?_⟩
     ·exact wp_or rfl ((evt za 20).trans (optVal (zc.dep 7 20 (by kernel_rfl)) rfl rfl)) (fun hp => ((evt za 27).trans (optVal (zc.dep 14 27 (by kernel_rfl)) rfl (bMkN zβ hp)))) ⟨_, rfl, Below.refl _ _, optDef zβ rfl⟩
     exact trivial
    ·intro za w15 zh hb16 zu
     have zh := zh.cons (d := 28) (v := .bool (((!((prget l p).1.small 96)) || (!((prget l p).2.small 96))))) (optVal (zu 15 28 (by kernel_rfl)) rfl rfl)
     clear zu
     refine WE.go zh ?_
     refine WE.next ?_
     refine WC.cond rfl (fun h17 => ?_) (fun h17 => ?_)
     ·have h17 : (¬ (((prget l p).1.small 96) = true)) ∨ (¬ (((prget l p).2.small 96) = true)) := by simpa using h17
      have hbg : ¬ ((prget l p).1.small 96 = true ∧ (prget l p).2.small 96 = true) := fun q => by
       rw [q.1, q.2] at h17; simp at h17
      refine WC.seq (WC.region (WL.asg rfl rfl rfl rfl rfl (WL.nil (WE.next (WC.ret (WE.blockRet (WE.thenRet (WE.thenRet (WE.blockRet (WE.thenRet (WE.ret1 rfl rfl ?_)))))))))))
      have hb18 : Below w.heap.size w w15 := (bstep hb3 hb16)
      exact ⟨_, rfl, by rw [wide_no (by omega) hbg], hb18⟩
     ·have h17 : ¬ ((¬ (((prget l p).1.small 96) = true)) ∨ (¬ (((prget l p).2.small 96) = true))) := by simpa using h17
      have hsx : (prget l p).1.small 96 = true ∧ (prget l p).2.small 96 = true := by simpa using h17
      refine WC.skip (WE.blockNormal (WE.next (WC.region (WL.mv rfl rfl rfl rfl rfl ?_))))
      refine WL.val (.int .i64 ((((p + 1) : Nat) : Int))) rfl rfl rfl (fun za zC zh zk => addb_3 rfl (zh.ev rfl) (zh.ev rfl) (wrap_eq (by omega) (by omega) (by omega)) zk) ?_
      refine WL.asg rfl rfl rfl rfl rfl (WL.nil ?_)
      refine WE.round (p + 1) ⟨rfl, rfl, rfl, trivial⟩ ?_ ?_
      ·have hb19 : Below w.heap.size w w15 := (bstep hb3 hb16)
       exact ⟨(by omega), (fun k hk9 => by rcases Nat.lt_succ_iff_lt_or_eq.1 hk9 with z | z; exact hsm k z; (rw [z]; exact hsx)), hb19⟩
      ·omega
   ·have h4 : ¬ ((((p : Nat) : Int) : Int) < (((l.length : Nat) : Int) : Int)) := by simpa using h4
    refine WC.exit (WE.thenExit (WE.thenExit (WE.blockIs rfl (WE.next (WC.seq (WC.region (WL.asg rfl rfl rfl rfl rfl (WL.nil (WE.next (WC.ret (WE.ret1 rfl rfl ?_)))))))))))
    exact ⟨_, rfl, by rw [(wide_at h64).2 (fun k hk9 => hsm k (by omega))], hb3⟩
end Go.Proofs.Ythhgidliopohcaa

namespace Go.Proofs.Ythhgidliopohcaa
open Go.RowKit Go
set_option linter.unusedVariables false
set_option linter.unusedSimpArgs false
/-- What is told of pairs. -/
def PairsIs (rv : Bool) (l : List (T × T)) (bs : List Bd) (e : Int) : Prop := (wideB l = false ∧ bs = [] ∧ e = 2) ∨ (wideB l = true ∧ ∃ o, SolveIs rv l o ∧ resOf o = (bs, e))
/-- How telling variables stands. -/
structure VS where
 v : Nat
 U : List Nat
 n : Nat
 L : List Bd
 ra : Option Addr
 rc : Nat
theorem bindsM_none {st : NS} {κ sz dp : Nat → Nat} {v : Nat} : ∀ {m : Nat}, v ≤ m → bindsM st κ sz dp v = none → bindsM st κ sz dp m = none
 | 0, h, e => by
  obtain rfl : v = 0 := by omega
  exact e
 | m + 1, h, e => by
  rcases Nat.lt_or_ge v (m + 1) with q | q
  ·rw [bindsM, bindsM_none (by omega) e]
  ·obtain rfl : v = m + 1 := by omega
   exact e
set_option maxRecDepth 100000 in
theorem ppairs_any (l : List (T × T)) (w : World) (a : Option Addr) (c : Nat) (hl : IsPs w l a c) (hlz : l.length ≤ 1048576) :
  Calls Try.prog 6 #[.slice a l.length c] w (Ret fun v' w' => (∃ bs a' c' e, v' = .tuple #[.slice a' bs.length c', .int .i64 e] ∧ PairsIs true l bs e ∧ InRow eltB (fun b => w.heap.size ≤ b) w' bs a' ∧ bs.length ≤ c' ∧ c' ≤ maxLen ∧ bs.length ≤ 96) ∧ Below w.heap.size w w') := by
 skip
 refine Calls.walk (l := [.slice a l.length c]) Try.func6 rfl (by kernel_rfl) ?_
 refine WC.sub (K' := [(0, .slice a l.length c)]) ⟨rfl, trivial⟩ ?_
 refine WC.seq (WC.region (WL.asg rfl rfl rfl rfl rfl (WL.asg rfl rfl rfl rfl rfl (WL.nil (WE.next (WC.seq (WC.region (WL.mv rfl rfl rfl rfl rfl ?_))))))))
 refine WL.call rfl rfl rfl (fun za zh zC => wp_call (by kernel_rfl) rfl (hv1 (zh.ev rfl))) (psolve_any l _ a c hl hlz) ?_
 rintro v3 w1 ⟨h4, hb2⟩
 rcases h4 with ⟨hW, rfl⟩ | ⟨hW, hsv, rfl⟩ | ⟨hW, st, κ, g, mb, ms, hgo, hAk, hdn, rfl, hNS, hmbw, hM⟩
 ·refine WL.mv rfl rfl rfl rfl rfl ?_
  refine WL.val (.pointer none) rfl rfl rfl (fun za zC zh zk => ext3_0 rfl (zh.ev rfl) zk) ?_
  refine WL.val (.slice none 0 0) rfl rfl rfl (fun za zC zh zk => ext3_1 rfl (zh.ev rfl) zk) ?_
  refine WL.val (.int .i64 2) rfl rfl rfl (fun za zC zh zk => ext3_2 rfl (zh.ev rfl) zk) ?_
  refine WL.asg rfl rfl rfl rfl rfl (WL.asg rfl rfl rfl rfl rfl (WL.asg rfl rfl rfl rfl rfl (WL.nil (WE.next (WC.seq (WC.seq (WC.region (WL.mv rfl rfl rfl rfl rfl ?_))))))))
  refine WL.val (.bool (((2 : Int) != (0 : Int)))) rfl rfl rfl (fun za zC zh zk => neq_25 rfl (zh.ev rfl) (zh.ev rfl) zk) ?_
  refine WL.nil (WE.next ?_)
  refine WC.condT rfl (rfl) ?_
  refine WC.seq (WC.region (WL.mv rfl rfl rfl rfl rfl (WL.asg rfl rfl rfl rfl rfl (WL.asg rfl rfl rfl rfl rfl (WL.nil (WE.next (WC.ret (WE.thenRet (WE.ret2 rfl rfl rfl ?_)))))))))
  exact ⟨_, rfl, ⟨[], none, 0, 2, rfl, .inl ⟨hW, rfl, rfl⟩, fun i hi => by simp at hi, Nat.le_refl _, by unfold maxLen; omega, by decide⟩, hb2⟩
 ·refine WL.mv rfl rfl rfl rfl rfl ?_
  refine WL.val (.pointer none) rfl rfl rfl (fun za zC zh zk => ext3_0 rfl (zh.ev rfl) zk) ?_
  refine WL.val (.slice none 0 0) rfl rfl rfl (fun za zC zh zk => ext3_1 rfl (zh.ev rfl) zk) ?_
  refine WL.val (.int .i64 4) rfl rfl rfl (fun za zC zh zk => ext3_2 rfl (zh.ev rfl) zk) ?_
  refine WL.asg rfl rfl rfl rfl rfl (WL.asg rfl rfl rfl rfl rfl (WL.asg rfl rfl rfl rfl rfl (WL.nil (WE.next (WC.seq (WC.seq (WC.region (WL.mv rfl rfl rfl rfl rfl ?_))))))))
  refine WL.val (.bool (((4 : Int) != (0 : Int)))) rfl rfl rfl (fun za zC zh zk => neq_25 rfl (zh.ev rfl) (zh.ev rfl) zk) ?_
  refine WL.nil (WE.next ?_)
  refine WC.condT rfl (rfl) ?_
  refine WC.seq (WC.region (WL.mv rfl rfl rfl rfl rfl (WL.asg rfl rfl rfl rfl rfl (WL.asg rfl rfl rfl rfl rfl (WL.nil (WE.next (WC.ret (WE.thenRet (WE.ret2 rfl rfl rfl ?_)))))))))
  exact ⟨_, rfl, ⟨[], none, 0, 4, rfl, .inr ⟨hW, none, hsv, rfl⟩, fun i hi => by simp at hi, Nat.le_refl _, by unfold maxLen; omega, by decide⟩, hb2⟩
 ·obtain ⟨Z, U, d, hZ, hR, hN⟩ := hNS
  have hZl := hN.lt
  have hmbl := hM.lt
  have hln := hgo.len
  have hag := hgo.arg
  have hk := hgo.cl.ok
  have hNo := hgo.ok.args
  have hml := hAk.len
  have h64 : l.length ≤ 64 := by unfold wideB at hW; rw [Bool.and_eq_true, decide_eq_true_eq] at hW; exact hW.1
  have hms := hAk.meas hdn
  have hrn := hgo.run
  rw [List.take_length] at hrn
  have hsv : SolveIs true l (some (st, κ, msz ms, mdp ms)) := .ok hrn hms
  have hw1 : w.heap.size ≤ w1.heap.size := (hb2).size
  refine WL.mv rfl rfl rfl rfl rfl ?_
  refine WL.val (.pointer (some ⟨g, 0, none⟩)) rfl rfl rfl (fun za zC zh zk => ext3_0 rfl (zh.ev rfl) zk) ?_
  refine WL.val (.slice ((some ⟨mb, 0, none⟩)) st.N.length st.N.length) rfl rfl rfl (fun za zC zh zk => ext3_1 rfl (zh.ev rfl) zk) ?_
  refine WL.val (.int .i64 0) rfl rfl rfl (fun za zC zh zk => ext3_2 rfl (zh.ev rfl) zk) ?_
  refine WL.asg rfl rfl rfl rfl rfl (WL.asg rfl rfl rfl rfl rfl (WL.asg rfl rfl rfl rfl rfl (WL.nil (WE.next (WC.seq (WC.seq (WC.region (WL.mv rfl rfl rfl rfl rfl ?_))))))))
  refine WL.val (.bool (((0 : Int) != (0 : Int)))) rfl rfl rfl (fun za zC zh zk => neq_25 rfl (zh.ev rfl) (zh.ev rfl) zk) ?_
  refine WL.nil (WE.next ?_)
  refine WC.condF rfl (rfl) ?_
  refine WC.skip (WE.next (WC.seq (WC.region (WL.asg rfl rfl rfl rfl rfl (WL.nil (WE.next (WC.seq (WC.seq (WC.region (WL.mv rfl rfl rfl rfl rfl ?_))))))))))
  refine WL.val _ rfl rfl rfl (fun za zC zh zk => nilCheck_ rfl (zh.ev rfl) zk) ?_
  refine WL.val _ rfl rfl rfl (fun za zC zh zk => fld_54_1 rfl (zh.ev rfl) zk) ?_
  refine WL.val (.agg (varsC st.V).toArray) rfl rfl rfl (fun za zC zh zk => ld_vars rfl (zh.ev rfl) (fun v hv => NetX.cv hN hv) zk) ?_
  refine WL.mv rfl rfl rfl rfl rfl (WL.nil (WE.next (WC.block ?_)))
  have hr0 : RowD eltB (fun b => w1.heap.size ≤ b ∧ obk none 0 0 ≠ some b) w1 41 none 0 0 ([]) := RowD.nil
  have hC0 : Chg Z w1 w1 := .ofBelow (Below.refl _ _)
  refine WC.loop (X := VS) (fun x => 96 - x.v) (fun x => [(0, .slice a l.length c), (4, .pointer (some ⟨g, 0, none⟩)), (5, .slice ((some ⟨mb, 0, none⟩)) st.N.length st.N.length), (6, .int .i64 0), (7, .slice x.ra x.n x.rc), (18, .bool (((0 : Int) != (0 : Int)))), (23, (.agg (varsC st.V).toArray)), (24, .int .i64 (((x.v : Nat) : Int)))]) (fun x w5 => x.v ≤ 96 ∧ Reps x.U κ d ∧ bindsM st κ (msz ms) (mdp ms) x.v = some x.L ∧ (∀ q, obk x.ra x.n x.rc = some q → w1.heap.size ≤ q) ∧ x.n ≤ x.v ∧ Chg Z w1 w5 ∧ Below w.heap.size w w5 ∧ NetX (w5) g Z x.U st.N st.V ∧ MB (w5) mb ms ∧ RowD eltB (fun b => w1.heap.size ≤ b ∧ obk x.ra x.n x.rc ≠ some b) (w5) 41 x.ra x.rc x.n x.L) (⟨0, U, 0, [], none, 0⟩) ⟨rfl, rfl, rfl, rfl, rfl, rfl, rfl, rfl, trivial⟩ ?_ ?_
  ·exact ⟨Nat.zero_le _, hR, rfl, (fun q e => nomatch e), Nat.le_refl _, hC0, hb2, hN, hM, hr0⟩
  ·rintro x w5 ⟨hvx, hRx, hbx, hownx, hnv, hCx, hb6, ho7, ho8, ho9⟩
   have hwx := hCx.size
   have hnL := ho9.len
   refine WC.seq (WC.region ?_)
   refine WL.val (.bool ((decide ((((x.v : Nat) : Int) : Int) < (96 : Int))))) rfl rfl rfl (fun za zC zh zk => lss_3 rfl (zh.ev rfl) (zh.ev rfl) zk) ?_
   refine WL.nil (WE.next (WC.seq ?_))
   refine WC.cond rfl (fun h10 => ?_) (fun h10 => ?_)
   ·have h10 : (((x.v : Nat) : Int) : Int) < (96 : Int) := by simpa using h10
    refine WC.skip (WE.next (WC.seq (WC.block (WC.seq (WC.region (WL.mv rfl rfl rfl rfl rfl ?_))))))
    refine WL.val (.int .i64 ((st.V x.v : Nat) : Int)) rfl rfl rfl (fun za zC zh zk => ix_vars rfl (zh.ev rfl) (zh.ev rfl) (by omega) zk) ?_
    refine WL.asg rfl rfl rfl rfl rfl (WL.asg rfl rfl rfl rfl rfl (WL.nil (WE.next (WC.seq (WC.seq (WC.region (WL.mv rfl rfl rfl rfl rfl ?_)))))))
    refine WL.val (.bool ((((((st.V x.v) : Nat) : Int) : Int) == (0 : Int)))) rfl rfl rfl (fun za zC zh zk => eql_3 rfl (zh.ev rfl) (zh.ev rfl) zk) ?_
    refine WL.nil (WE.next ?_)
    refine WC.cond rfl (fun h11 => ?_) (fun h11 => ?_)
    ·have h11 : ((((st.V x.v) : Nat) : Int) : Int) = (0 : Int) := by simpa using h11
     have hz9 : st.V x.v = 0 := by omega
     refine WC.exit (WE.thenExit (WE.blockIs rfl (WE.next (WC.region ?_))))
     refine WL.val (.int .i64 ((((x.v + 1) : Nat) : Int))) rfl rfl rfl (fun za zC zh zk => addb_3 rfl (zh.ev rfl) (zh.ev rfl) (wrap_eq (by omega) (by omega) (by omega)) zk) ?_
     refine WL.mv rfl rfl rfl rfl rfl (WL.nil ?_)
     refine WE.round (⟨x.v + 1, x.U, x.n, x.L, x.ra, x.rc⟩) ⟨rfl, rfl, rfl, rfl, rfl, rfl, rfl, rfl, trivial⟩ ?_ ?_
     ·exact ⟨(by (try dsimp only); omega), hRx, (by show bindsM st κ (msz ms) (mdp ms) (x.v + 1) = _; rw [bindsM, hbx]; dsimp only; rw [if_pos hz9]), hownx, (by (try dsimp only); omega), hCx, hb6, ho7, ho8, ho9⟩
     ·(try dsimp only); omega
    ·have h11 : ¬ (((((st.V x.v) : Nat) : Int) : Int) = (0 : Int)) := by simpa using h11
     have hz9 : st.V x.v ≠ 0 := by omega
     have hvN := (hgo.ok.vars x.v).1
     have hvl : st.V x.v - 1 < st.N.length := by omega
     have hkl : (κ (st.V x.v - 1)) < st.N.length := hk.lt _ hvl
     have hkk : κ (κ (st.V x.v - 1)) = (κ (st.V x.v - 1)) := hk.idem _
     have hb3 := hAk.bnd _ (hdn _ hvl)
     have hb4 := ndS_le ms
     unfold capS at hb3
     refine WC.skip (WE.next (WC.seq (WC.region (WL.mv rfl rfl rfl rfl rfl ?_))))
     refine WL.val _ rfl rfl rfl (fun za zC zh zk => nilCheck_ rfl (zh.ev rfl) zk) ?_
     refine WL.val _ rfl rfl rfl (fun za zC zh zk => fld_54_0 rfl (zh.ev rfl) zk) ?_
     refine WL.mv rfl rfl rfl rfl rfl ?_
     refine WL.val (.int .i64 ((((st.V x.v - 1) : Nat) : Int))) rfl rfl rfl (fun za zC zh zk => subb_3 rfl (zh.ev rfl) (zh.ev rfl) (wrap_eq (by omega) (by omega) (by omega)) zk) ?_
     obtain ⟨S8, ua, uc, oa, oc, hP8, hPZ, _⟩ := ho7
     obtain ⟨ub, rfl, hub⟩ := hP8.ub (by omega)
     have hubZ : Z ub := hPZ ub (.inr (.inl hub))
     have hubw := hZl ub hubZ
     have hubB := (hZ ub hubZ).1
     have humb : mb ≠ ub := fun e => (hZ ub hubZ).2 e.symm
     have hb12 : Below w.heap.size w w5 := hb6
     refine WL.call rfl rfl rfl (fun za zh zC => wp_call (by kernel_rfl) rfl (hv2 (zh.ev rfl) (zh.ev rfl))) (ptop_pn κ d x.U st.N st.V g S8 ub uc oa oc (st.V x.v - 1) _ hP8 hRx hvl (by omega)) ?_
     rintro _ w17 ⟨rfl, ⟨U13, hR14, hP15⟩, hc16⟩
     have hC18 := Chg.trans hCx (Chg.mono (S' := Z) hc16 (fun b e => by rw [show b = ub from e]; exact hubZ))
     have hM19 := ho8.chg hc16 (fun e => humb e)
     have hr20 := ho9.chg hc16 (fun b q e => by have z := hownx b q; (try dsimp only at e); omega) (fun b q e => by have z := q.1; (try dsimp only at e); omega)
     have hb21 := chg_below hb12 hc16 (fun b hb e => by (try dsimp only at e); omega)
     refine WL.asg rfl rfl rfl rfl rfl (WL.nil (WE.next (WC.seq (WC.seq ?_))))
     obtain ⟨ob, A9, C9, hoa, hob, hcP⟩ := hP15.ofP (by omega)
     refine WC.region (WL.mv rfl rfl rfl rfl rfl ?_)
     refine WL.val _ rfl rfl rfl (fun za zC zh zk => nilCheck_ rfl (zh.ev rfl) zk) ?_
     refine WL.val _ rfl rfl rfl (fun za zC zh zk => fld_54_0 rfl (zh.ev rfl) zk) ?_
     refine WL.val _ rfl rfl rfl (fun za zC zh zk => fld_51_1 rfl (zh.ev rfl) zk) ?_
     refine WL.val _ rfl rfl rfl (fun za zC zh zk => ld_49 rfl (zh.ev rfl) hP15.c1 zk) ?_
     refine WL.mv rfl rfl rfl rfl rfl ?_
     refine WL.val _ rfl rfl rfl (fun za zC zh zk => ix_49 (k := (κ (st.V x.v - 1))) rfl (zh.ev rfl) hoa (zh.ev rfl) (by first | omega | (simp; omega)) zk) ?_
     refine WL.val _ rfl rfl rfl (fun za zC zh zk => fld_57_0 rfl (zh.ev rfl) zk) ?_
     refine WL.val _ rfl rfl rfl (fun za zC zh zk => ld_3 rfl (zh.ev rfl) (hcP ((κ (st.V x.v - 1))) (by first | omega | (simp; omega))).1 zk) ?_
     refine WL.mv rfl rfl rfl rfl rfl ?_
     refine WL.val (.int .i64 (((-1) - ((x.v : Nat) : Int)))) rfl rfl rfl (fun za zC zh zk => subb_3 rfl (zh.ev rfl) (zh.ev rfl) (wrap_eq (by omega) (by omega) (by omega)) zk) ?_
     refine WL.val (.bool ((((pget st.N ((κ (st.V x.v - 1)))).fn : Int) == (((-1) - ((x.v : Nat) : Int)) : Int)))) rfl rfl rfl (fun za zC zh zk => eql_3 rfl (zh.ev rfl) (zh.ev rfl) zk) ?_
     refine WL.nil (WE.sub (K' := [(0, .slice a l.length c), (4, .pointer (some ⟨g, 0, none⟩)), (5, .slice ((some ⟨mb, 0, none⟩)) st.N.length st.N.length), (6, .int .i64 0), (7, .slice x.ra x.n x.rc), (8, .int .i64 (((x.v : Nat) : Int))), (9, .int .i64 ((((st.V x.v) : Nat) : Int))), (10, .int .i64 ((((κ (st.V x.v - 1)) : Nat) : Int))), (18, .bool (((0 : Int) != (0 : Int)))), (23, (.agg (varsC st.V).toArray)), (24, .int .i64 (((x.v : Nat) : Int))), (25, .bool ((decide ((((x.v : Nat) : Int) : Int) < (96 : Int))))), (29, .bool ((((((st.V x.v) : Nat) : Int) : Int) == (0 : Int)))), (47, .bool ((((pget st.N ((κ (st.V x.v - 1)))).fn : Int) == (((-1) - ((x.v : Nat) : Int)) : Int))))]) ⟨rfl, rfl, rfl, rfl, rfl, rfl, rfl, rfl, rfl, rfl, rfl, rfl, rfl, rfl, trivial⟩ ?_)
     refine WE.next ?_
     refine WC.cond rfl (fun h22 => ?_) (fun h22 => ?_)
     ·have h22 : ((pget st.N ((κ (st.V x.v - 1)))).fn : Int) = (((-1) - ((x.v : Nat) : Int)) : Int) := by simpa using h22
      have hself : (pget st.N (κ (st.V x.v - 1))).fn = -1 - (x.v : Int) := by omega
      refine WC.exit (WE.thenExit (WE.blockIs rfl (WE.next (WC.region ?_))))
      refine WL.val (.int .i64 ((((x.v + 1) : Nat) : Int))) rfl rfl rfl (fun za zC zh zk => addb_3 rfl (zh.ev rfl) (zh.ev rfl) (wrap_eq (by omega) (by omega) (by omega)) zk) ?_
      refine WL.mv rfl rfl rfl rfl rfl (WL.nil ?_)
      have hN23 : NetX w17 g Z U13 st.N st.V := ⟨S8, _, uc, _, oc, hP15, hPZ, fun b q => Nat.lt_of_lt_of_le (hZl b q) (hC18).size⟩
      refine WE.round (⟨x.v + 1, U13, x.n, x.L, x.ra, x.rc⟩) ⟨rfl, rfl, rfl, rfl, rfl, rfl, rfl, rfl, trivial⟩ ?_ ?_
      ·exact ⟨(by (try dsimp only); omega), hR14, (by show bindsM st κ (msz ms) (mdp ms) (x.v + 1) = _; rw [bindsM, hbx]; dsimp only; rw [if_neg hz9, if_pos hself]), hownx, (by (try dsimp only); omega), hC18, hb21, hN23, hM19, hr20⟩
      ·(try dsimp only); omega
     ·have h22 : ¬ (((pget st.N ((κ (st.V x.v - 1)))).fn : Int) = (((-1) - ((x.v : Nat) : Int)) : Int)) := by simpa using h22
      have hself : ¬ (pget st.N (κ (st.V x.v - 1))).fn = -1 - (x.v : Int) := by omega
      refine WC.skip (WE.next (WC.seq (WC.seq ?_)))
      refine WC.opt [(true, .val (.slice ((some ⟨mb, 0, none⟩)) st.N.length st.N.length)), (true, .val (.int .i64 ((((κ (st.V x.v - 1)) : Nat) : Int)))), (true, .val (.pointer (some ⟨mb, 0 + ((κ (st.V x.v - 1))) * 3, none⟩))), (true, .val (.pointer (some ⟨mb, 0 + ((κ (st.V x.v - 1))) * 3, none⟩))), (true, .val (.int .i64 ((((mget ms ((κ (st.V x.v - 1)))).sz : Nat) : Int)))), (true, .val (.bool ((decide ((300 : Int) < ((((mget ms ((κ (st.V x.v - 1)))).sz : Nat) : Int) : Int)))))), (true, .val (.bool ((decide ((300 : Int) < ((((mget ms ((κ (st.V x.v - 1)))).sz : Nat) : Int) : Int)))))), ((true && !(decide ((300 : Int) < ((((mget ms ((κ (st.V x.v - 1)))).sz : Nat) : Int) : Int)))), .val (.slice ((some ⟨mb, 0, none⟩)) st.N.length st.N.length)), ((true && !(decide ((300 : Int) < ((((mget ms ((κ (st.V x.v - 1)))).sz : Nat) : Int) : Int)))), .val (.int .i64 ((((κ (st.V x.v - 1)) : Nat) : Int)))), ((true && !(decide ((300 : Int) < ((((mget ms ((κ (st.V x.v - 1)))).sz : Nat) : Int) : Int)))), .val (.pointer (some ⟨mb, 0 + ((κ (st.V x.v - 1))) * 3, none⟩))), ((true && !(decide ((300 : Int) < ((((mget ms ((κ (st.V x.v - 1)))).sz : Nat) : Int) : Int)))), .val (.pointer (some ⟨mb, 0 + ((κ (st.V x.v - 1))) * 3 + 1, none⟩))), ((true && !(decide ((300 : Int) < ((((mget ms ((κ (st.V x.v - 1)))).sz : Nat) : Int) : Int)))), .val (.int .i64 ((((mget ms ((κ (st.V x.v - 1)))).dp : Nat) : Int)))), ((true && !(decide ((300 : Int) < ((((mget ms ((κ (st.V x.v - 1)))).sz : Nat) : Int) : Int)))), .val (.bool ((decide ((30 : Int) < ((((mget ms ((κ (st.V x.v - 1)))).dp : Nat) : Int) : Int)))))), (true, .val (.bool (((decide ((300 : Int) < ((((mget ms ((κ (st.V x.v - 1)))).sz : Nat) : Int) : Int))) || (decide ((30 : Int) < ((((mget ms ((κ (st.V x.v - 1)))).dp : Nat) : Int) : Int)))))))] [(0, .slice a l.length c), (4, .pointer (some ⟨g, 0, none⟩)), (5, .slice ((some ⟨mb, 0, none⟩)) st.N.length st.N.length), (6, .int .i64 0), (7, .slice x.ra x.n x.rc), (8, .int .i64 (((x.v : Nat) : Int))), (9, .int .i64 ((((st.V x.v) : Nat) : Int))), (10, .int .i64 ((((κ (st.V x.v - 1)) : Nat) : Int))), (18, .bool (((0 : Int) != (0 : Int)))), (23, (.agg (varsC st.V).toArray)), (24, .int .i64 (((x.v : Nat) : Int))), (25, .bool ((decide ((((x.v : Nat) : Int) : Int) < (96 : Int))))), (29, .bool ((((((st.V x.v) : Nat) : Int) : Int) == (0 : Int)))), (47, .bool ((((pget st.N ((κ (st.V x.v - 1)))).fn : Int) == (((-1) - ((x.v : Nat) : Int)) : Int))))] ⟨rfl, rfl, rfl, rfl, rfl, rfl, rfl, rfl, rfl, rfl, rfl, rfl, rfl, rfl, trivial⟩ (by kernel_rfl) (by kernel_rfl) (by kernel_rfl) ?_ ?_
      ·refine ⟨⟨true, .none rfl, fun h w => optUndef h, fun zβ za zw zc => ?_⟩, ?_⟩
       ·exact wp_move rfl (zc.kn.ev rfl) ⟨_, rfl, Below.refl _ _, optDef zβ rfl⟩
       refine ⟨⟨true, .none rfl, fun h w => optUndef h, fun zβ za zw zc => ?_⟩, ?_⟩
       ·exact wp_move rfl (zc.kn.ev rfl) ⟨_, rfl, Below.refl _ _, optDef zβ rfl⟩
       refine ⟨⟨true, .none rfl, fun h w => optUndef h, fun zβ za zw zc => ?_⟩, ?_⟩
       ·exact ix_45 (k := (κ (st.V x.v - 1))) rfl ((evt za 48).trans (optVal (zc.dep 0 48 (by kernel_rfl)) rfl rfl)) rfl ((evt za 49).trans (optVal (zc.dep 1 49 (by kernel_rfl)) rfl rfl)) (by first | omega | (simp; omega)) ⟨_, rfl, Below.refl _ _, optDef zβ rfl⟩
       refine ⟨⟨true, .none rfl, fun h w => optUndef h, fun zβ za zw zc => ?_⟩, ?_⟩
       ·exact fld_59_0 rfl ((evt za 50).trans (optVal (zc.dep 2 50 (by kernel_rfl)) rfl rfl)) ⟨_, rfl, Below.refl _ _, optDef zβ rfl⟩
       refine ⟨⟨true, .none rfl, fun h w => optUndef h, fun zβ za zw zc => ?_⟩, ?_⟩
       ·exact ld_3 rfl ((evt za 51).trans (optVal (zc.dep 3 51 (by kernel_rfl)) rfl rfl)) (bkeeps zc.below _ _ (hM19.c0 (by omega))) ⟨_, rfl, Below.refl _ _, optDef zβ rfl⟩
       refine ⟨⟨true, .none rfl, fun h w => optUndef h, fun zβ za zw zc => ?_⟩, ?_⟩
       ·exact gtr_3 rfl ((evt za 52).trans (optVal (zc.dep 4 52 (by kernel_rfl)) rfl rfl)) (zc.kn.ev rfl) ⟨_, rfl, Below.refl _ _, optDef zβ rfl⟩
       refine ⟨⟨true, .none rfl, fun h w => optUndef h, fun zβ za zw zc => ?_⟩, ?_⟩
       ·exact wp_move rfl ((evt za 53).trans (optVal (zc.dep 5 53 (by kernel_rfl)) rfl rfl)) ⟨_, rfl, Below.refl _ _, optDef zβ rfl⟩
       refine ⟨⟨_, .no (c := (decide ((300 : Int) < ((((mget ms ((κ (st.V x.v - 1)))).sz : Nat) : Int) : Int)))) (d := true) rfl (fun v w h => h), fun h w => optUndef h, fun zβ za zw zc => ?_⟩, ?_⟩
       ·exact wp_move rfl (zc.kn.ev rfl) ⟨_, rfl, Below.refl _ _, optDef zβ rfl⟩
       refine ⟨⟨_, .no (c := (decide ((300 : Int) < ((((mget ms ((κ (st.V x.v - 1)))).sz : Nat) : Int) : Int)))) (d := true) rfl (fun v w h => h), fun h w => optUndef h, fun zβ za zw zc => ?_⟩, ?_⟩
       ·exact wp_move rfl (zc.kn.ev rfl) ⟨_, rfl, Below.refl _ _, optDef zβ rfl⟩
       refine ⟨⟨_, .no (c := (decide ((300 : Int) < ((((mget ms ((κ (st.V x.v - 1)))).sz : Nat) : Int) : Int)))) (d := true) rfl (fun v w h => h), fun h w => optUndef h, fun zβ za zw zc => ?_⟩, ?_⟩
       ·exact ix_45 (k := (κ (st.V x.v - 1))) rfl ((evt za 55).trans (optVal (zc.dep 7 55 (by kernel_rfl)) rfl zβ)) rfl ((evt za 56).trans (optVal (zc.dep 8 56 (by kernel_rfl)) rfl zβ)) (by first | omega | (have zz := zβ; simp only [Bool.and_eq_true, Bool.or_eq_true, Bool.true_and, Bool.not_eq_true', Bool.or_eq_false_iff, Bool.and_eq_false_iff, beq_eq_false_iff_ne, ne_eq, beq_iff_eq, decide_eq_true_eq, decide_eq_false_iff_not, bne_iff_ne, bne_eq_false_iff_eq] at zz; omega)) ⟨_, rfl, Below.refl _ _, optDef zβ rfl⟩
       refine ⟨⟨_, .no (c := (decide ((300 : Int) < ((((mget ms ((κ (st.V x.v - 1)))).sz : Nat) : Int) : Int)))) (d := true) rfl (fun v w h => h), fun h w => optUndef h, fun zβ za zw zc => ?_⟩, ?_⟩
       ·exact fld_59_1 rfl ((evt za 57).trans (optVal (zc.dep 9 57 (by kernel_rfl)) rfl zβ)) ⟨_, rfl, Below.refl _ _, optDef zβ rfl⟩
       refine ⟨⟨_, .no (c := (decide ((300 : Int) < ((((mget ms ((κ (st.V x.v - 1)))).sz : Nat) : Int) : Int)))) (d := true) rfl (fun v w h => h), fun h w => optUndef h, fun zβ za zw zc => ?_⟩, ?_⟩
       ·exact ld_3 rfl ((evt za 58).trans (optVal (zc.dep 10 58 (by kernel_rfl)) rfl zβ)) (bkeeps zc.below _ _ (hM19.c1 (by omega))) ⟨_, rfl, Below.refl _ _, optDef zβ rfl⟩
       refine ⟨⟨_, .no (c := (decide ((300 : Int) < ((((mget ms ((κ (st.V x.v - 1)))).sz : Nat) : Int) : Int)))) (d := true) rfl (fun v w h => h), fun h w => optUndef h, fun zβ za zw zc => ?_⟩, ?_⟩
       ·exact gtr_3 rfl ((evt za 59).trans (optVal (zc.dep 11 59 (by kernel_rfl)) rfl zβ)) (zc.kn.ev rfl) ⟨_, rfl, Below.refl _ _, optDef zβ rfl⟩
       refine ⟨⟨true, .none rfl, fun h w => optUndef h, fun zβ za zw zc => ?_⟩, ?_⟩
       ·exact wp_or rfl ((evt za 54).trans (optVal (zc.dep 6 54 (by kernel_rfl)) rfl rfl)) (fun hp => ((evt za 60).trans (optVal (zc.dep 12 60 (by kernel_rfl)) rfl (bMkN zβ hp)))) ⟨_, rfl, Below.refl _ _, optDef zβ rfl⟩
       exact trivial
      ·intro za w24 zh hb25 zu
       have zh := zh.cons (d := 61) (v := .bool (((decide ((300 : Int) < ((((mget ms ((κ (st.V x.v - 1)))).sz : Nat) : Int) : Int))) || (decide ((30 : Int) < ((((mget ms ((κ (st.V x.v - 1)))).dp : Nat) : Int) : Int)))))) (optVal (zu 13 61 (by kernel_rfl)) rfl rfl)
       clear zu
       refine WE.go zh ?_
       refine WE.next ?_
       refine WC.cond rfl (fun h26 => ?_) (fun h26 => ?_)
       ·have h26 : ((300 : Int) < ((((mget ms ((κ (st.V x.v - 1)))).sz : Nat) : Int) : Int)) ∨ ((30 : Int) < ((((mget ms ((κ (st.V x.v - 1)))).dp : Nat) : Int) : Int)) := by simpa using h26
        have hlong : 300 < msz ms (κ (st.V x.v - 1)) ∨ 30 < mdp ms (κ (st.V x.v - 1)) := by show 300 < (mget ms (κ (st.V x.v - 1))).sz ∨ 30 < (mget ms (κ (st.V x.v - 1))).dp; omega
        refine WC.seq (WC.region (WL.asg rfl rfl rfl rfl rfl (WL.asg rfl rfl rfl rfl rfl (WL.nil (WE.next (WC.ret (WE.thenRet (WE.blockRet (WE.thenRet (WE.thenRet (WE.blockRet (WE.thenRet (WE.ret2 rfl rfl rfl ?_)))))))))))))
        have hb27 : Below w.heap.size w w24 := (bstep hb21 hb25)
        have hbn : bindsM st κ (msz ms) (mdp ms) 96 = none := bindsM_none (v := x.v + 1) (by omega) (by rw [bindsM, hbx]; dsimp only; rw [if_neg hz9, if_neg hself, if_pos hlong])
        exact ⟨_, rfl, ⟨[], none, 0, 3, rfl, .inr ⟨hW, _, hsv, by unfold resOf; dsimp only; rw [hbn]; rfl⟩, fun i hi => by simp at hi, Nat.le_refl _, by unfold maxLen; omega, by decide⟩, hb27⟩
       ·have h26 : ¬ (((300 : Int) < ((((mget ms ((κ (st.V x.v - 1)))).sz : Nat) : Int) : Int)) ∨ ((30 : Int) < ((((mget ms ((κ (st.V x.v - 1)))).dp : Nat) : Int) : Int))) := by simpa using h26
        have hlong : ¬ (300 < msz ms (κ (st.V x.v - 1)) ∨ 30 < mdp ms (κ (st.V x.v - 1))) := by show ¬ (300 < (mget ms (κ (st.V x.v - 1))).sz ∨ 30 < (mget ms (κ (st.V x.v - 1))).dp); omega
        refine WC.skip (WE.next ?_)
        have hC28 := Chg.trans hC18 (.ofBelow hb25)
        have ho29 := hr20.below hb25
        have hCt := hC28
        have howt : ∀ q, obk x.ra x.n x.rc = some q → q < w24.heap.size := ho29.lt
        refine WC.region (WL.mv rfl rfl rfl rfl rfl (WL.mv rfl rfl rfl rfl rfl (WL.mv rfl rfl rfl rfl rfl (WL.mv rfl rfl rfl rfl rfl ?_))))
        have ho30 := hP15.below hb25
        have ho31 := hM19.below hb25
        have hb33 : Below w.heap.size w w24 := (bstep hb21 hb25)
        have hb32 : Below w.heap.size w w24 := hb33
        refine WL.call rfl rfl rfl (fun za zh zC => wp_call (by kernel_rfl) rfl (hv2 (zh.ev rfl) (zh.ev rfl))) (pterm_any κ d (msz ms) (mdp ms) st.N st.V g S8 ub uc oa oc hk hNo (by omega) (by omega) (fun i hi => hgo.sy.at_ hi) hms (mdp ms (κ (st.V x.v - 1))) U13 (κ (st.V x.v - 1)) _ (by rw [hkk]; exact Nat.le_refl _) ho30 hR14 hkl) ?_
        rintro vt34 w40 ⟨hn35, ⟨U36, hR37, hP38⟩, hc39⟩
        have hC41 := Chg.trans hC28 (Chg.mono (S' := Z) hc39 (fun b e => by rw [show b = ub from e]; exact hubZ))
        have hM42 := ho31.chg hc39 (fun e => humb e)
        have hr43 := ho29.chg hc39 (fun b q e => by have z := hownx b q; (try dsimp only at e); omega) (fun b q e => by have z := q.1; (try dsimp only at e); omega)
        have hb44 := chg_below hb32 hc39 (fun b hb e => by (try dsimp only at e); omega)
        obtain ⟨_, fa, fc, rfl, _⟩ := hn35.form
        refine WL.val (.agg #[.int .i64 (((x.v : Nat) : Int)), .int .i64 ((tmF st.N κ (mdp ms (κ (st.V x.v - 1))) (κ (st.V x.v - 1))).f), .slice fa ((tmF st.N κ (mdp ms (κ (st.V x.v - 1))) (κ (st.V x.v - 1))).args.length) fc]) rfl rfl rfl (fun za zC zh zk => build_41_0_1 rfl (zh.ev rfl) (zh.ev rfl) zk) ?_
        refine WL.step (post := NewRow w40 41 #[.int .i64 (((x.v : Nat) : Int)), .int .i64 ((tmF st.N κ (mdp ms (κ (st.V x.v - 1))) (κ (st.V x.v - 1))).f), .slice fa ((tmF st.N κ (mdp ms (κ (st.V x.v - 1))) (κ (st.V x.v - 1))).args.length) fc] 1) rfl rfl rfl (fun za zC zh zk => row_24_1 rfl (zh.ev rfl) (zk _ _ (newRow _ _ _ _))) ?_
        rintro _ w45 ⟨g46, rfl, hg47, hB48, hb49, hz50⟩
        have hl51 : w.heap.size ≤ g46 := by have z2 := (hb44).size; omega
        have hl52 : w40.heap.size ≤ g46 := by omega
        have ho53 := hr43.below hb49
        have ho54 := hP38.below hb49
        have ho55 := hM42.below hb49
        have hC56 := Chg.trans hC41 (.ofBelow hb49)
        have hb58 : Below w.heap.size w w45 := (bstep hb44 hb49)
        have hb57 : Below w.heap.size w w45 := hb58
        have hWt : w24.heap.size ≤ w45.heap.size := (Nat.le_trans hc39.size hb49.size)
        have hin9 : eltB.In (fun b => w24.heap.size ≤ b) w45 ⟨(x.v : Int), (tmF st.N κ (mdp ms (κ (st.V x.v - 1))) (κ (st.V x.v - 1)))⟩ [.int .i64 ((x.v : Nat) : Int), .int .i64 (tmF st.N κ (mdp ms (κ (st.V x.v - 1))) (κ (st.V x.v - 1))).f, .slice fa (tmF st.N κ (mdp ms (κ (st.V x.v - 1))) (κ (st.V x.v - 1))).args.length fc] := ⟨_, _, rfl, by unfold I64; (try dsimp only); omega, (InT.below hb49 hn35)⟩
        have hWt2 : w1.heap.size ≤ w24.heap.size := hCt.size
        refine WL.step (post := fun v w' => ∃ ra rc, v = .slice ra (x.n + 1) rc ∧ (RowD eltB (fun b => w1.heap.size ≤ b ∧ obk ra ((x.n + 1)) rc ≠ some b) w' 41 ra rc ((x.n + 1)) ((x.L ++ [⟨(x.v : Int), (tmF st.N κ (mdp ms (κ (st.V x.v - 1))) (κ (st.V x.v - 1)))⟩]))) ∧ Chg (fun b => obk x.ra x.n x.rc = some b) w45 w' ∧ ∀ q, obk ra ((x.n + 1)) rc = some q → w1.heap.size ≤ q) rfl rfl rfl (fun za zC zh zk => wp_appD (E := eltB) (S2 := fun b => w24.heap.size ≤ b) (y := ⟨(x.v : Int), (tmF st.N κ (mdp ms (κ (st.V x.v - 1))) (κ (st.V x.v - 1)))⟩) (size := 3) (bytes := 40) (z := .agg #[.int .i64 0, .int .i64 0, .slice none 0 0]) rfl Try.underlying24 (by kernel_rfl) rfl (by decide) rfl (zh.ev rfl) (zh.ev rfl) ho53 hB48 hin9 (fun b q q2 => by have z := howt b q2; (try dsimp only at q); omega) (by omega) (by omega) (fun ra rc w' h1 h2 h3 => zk _ _ ⟨ra, rc, rfl, h1.mono (fun b q _ => by
          obtain ⟨q1, q2⟩ := q
          rcases q1 with q1 | q1
          ·exact ⟨q1.1, fun e9 => by rcases h3 b e9 with z | z; exact q1.2 z; omega⟩
          ·(try dsimp only at q1)
           exact ⟨by omega, fun e9 => by rcases h3 b e9 with z | z; (have z2 := howt b z; omega); omega⟩) (fun b q => q.2), h2, fun q e9 => by rcases h3 q e9 with z | z; exact hownx q z; omega⟩)) ?_
        rintro _ w59 ⟨ra60, rc61, rfl, hr62, hc63, ho64⟩
        have hC65 := chg_fresh hC56 hc63 (fun b e => .inr (hownx b e))
        have hM66 := ho55.chg hc63 (fun e => by have z := hownx _ e; omega)
        have hP67 := ho54.chg hc63 (fun b q e => by have z := hownx _ e; have z2 := hZl b (hPZ b q); omega)
        have hb68 := chg_below hb57 hc63 (fun b hb e => by have z := hownx b e; omega)
        refine WL.asg rfl rfl rfl rfl rfl (WL.nil (WE.blockNormal (WE.next (WC.region ?_))))
        refine WL.val (.int .i64 ((((x.v + 1) : Nat) : Int))) rfl rfl rfl (fun za zC zh zk => addb_3 rfl (zh.ev rfl) (zh.ev rfl) (wrap_eq (by omega) (by omega) (by omega)) zk) ?_
        refine WL.mv rfl rfl rfl rfl rfl (WL.nil ?_)
        have hN69 : NetX w59 g Z U36 st.N st.V := ⟨S8, _, uc, _, oc, hP67, hPZ, fun b q => Nat.lt_of_lt_of_le (hZl b q) (hC65).size⟩
        refine WE.round (⟨x.v + 1, U36, (x.n + 1), (x.L ++ [⟨(x.v : Int), (tmF st.N κ (mdp ms (κ (st.V x.v - 1))) (κ (st.V x.v - 1)))⟩]), ra60, rc61⟩) ⟨rfl, rfl, rfl, rfl, rfl, rfl, rfl, rfl, trivial⟩ ?_ ?_
        ·exact ⟨(by (try dsimp only); omega), hR37, (by show bindsM st κ (msz ms) (mdp ms) (x.v + 1) = _; rw [bindsM, hbx]; dsimp only; rw [if_neg hz9, if_neg hself, if_neg hlong]), ho64, (by (try dsimp only); omega), hC65, hb68, hN69, hM66, hr62⟩
        ·(try dsimp only); omega
   ·have h10 : ¬ ((((x.v : Nat) : Int) : Int) < (96 : Int)) := by simpa using h10
    refine WC.exit (WE.thenExit (WE.thenExit (WE.blockIs rfl (WE.next (WC.seq (WC.region (WL.mv rfl rfl rfl rfl rfl (WL.asg rfl rfl rfl rfl rfl (WL.asg rfl rfl rfl rfl rfl (WL.nil (WE.next (WC.ret (WE.ret2 rfl rfl rfl ?_)))))))))))))
    have hv9 : x.v = 96 := by omega
    rw [hv9] at hbx
    have hrr := ho9
    have hnn := hrr.len
    have hri := hrr.inRow
    exact ⟨_, rfl, ⟨x.L, x.ra, x.rc, 0, by rw [← hnn], .inr ⟨hW, _, hsv, by unfold resOf; dsimp only; rw [hbx]; rfl⟩, hrr.inRowT.mono (by decide) (fun b q _ => by rcases q with q | q; exact Nat.le_trans hw1 q.1; exact Nat.le_trans hw1 (hownx b q)), by omega, hri.2.2, by omega⟩, hb6⟩
end Go.Proofs.Ythhgidliopohcaa
