/- A clause and its normal form: the program. -/
import Derived.Test.YtcmfjnadjddboaaMNi
import Derived.Test.YtcmfjnadjddboaaMNh
import Derived.Test.YtcmfjnadjddboaaMNf
import Derived.Test.YtcmfjnadjddboaaMNd
import Derived.WalkKit

/- A term is named anew, by a closure that writes what was named. -/
namespace Go.Proofs.Ytcmfjnadjddboaa
open Go.RowKit Go
set_option linter.unusedVariables false
set_option linter.unusedSimpArgs false

set_option linter.unnecessarySimpa false

set_option maxRecDepth 100000 in
theorem rn_any : ∀ t : T, RnSpec t := by
  refine T.ind (fun f l ih => ?_)
  intro gn gs ns C A w v h ht hA hz hn
  have hClt := h.clt
  obtain ⟨hf, pa0, pc0, rfl, hpc1, hpc2, _⟩ := ht.form
  rw [T.f_mk] at hf
  have hf' := hf
  unfold I64 at hf'
  unfold maxLen at hpc2
  have hz' := hz
  rw [T.size] at hz' hn
  have hlen := len_le_sizeL l
  have hnmt := nmTo_len ns (-1 - f)
  have ht0 := InT.mono (S' := fun b => A b ∧ b < w.heap.size) (fun b q z => ⟨q, z⟩) ht
  have hA0 : ∀ b, (A b ∧ b < w.heap.size) → ¬ ((C b ∧ b < w.heap.size) ∨ w.heap.size ≤ b) := fun b q q2 => q2.elim (fun q2 => hA b q.1 q2.1) (fun q2 => by omega)
  refine Calls.walk (l := [.agg #[.int .i64 f, .slice pa0 l.length pc0], .func (.func 47) #[] #[.pointer (some ⟨gn, 0, none⟩), .pointer (some ⟨gs, 0, none⟩)]]) Try.func48 rfl (by kernel_rfl) ?_
  refine WC.sub (K' := [(0, .agg #[.int .i64 f, .slice pa0 l.length pc0]), (1, .func (.func 47) #[] #[.pointer (some ⟨gn, 0, none⟩), .pointer (some ⟨gs, 0, none⟩)])]) ⟨rfl, rfl, trivial⟩ ?_
  refine WC.seq ?_
  refine WC.region ?_
  refine WL.step (post := NewBlk w 24 #[.int .i64 f, .slice pa0 l.length pc0]) rfl rfl rfl (fun za zC zh zk => box_24 rfl (zh.ev rfl) (zk _ _ (newBlk _ _ _))) ?_
  rintro _ w1 ⟨g2, rfl, hg3, hB4, hb5, hz6⟩
  have hl7 : w.heap.size ≤ g2 := by omega
  refine WL.step (post := NewBlk w1 24 #[.int .i64 0, .slice none 0 0]) rfl rfl rfl (fun za zC zh zk => alloc_24 rfl (zk _ _ (newBlk _ _ _))) ?_
  rintro _ w8 ⟨g9, rfl, hg10, hB11, hb12, hz13⟩
  have hl14 : g2 < g9 := by have z1 := hB4.lt; omega
  have hl15 : w.heap.size ≤ g9 := by have z2 := (hb5).size; omega
  refine WL.nil (WE.sub (K' := [(0, .agg #[.int .i64 f, .slice pa0 l.length pc0]), (1, .func (.func 47) #[] #[.pointer (some ⟨gn, 0, none⟩), .pointer (some ⟨gs, 0, none⟩)]), (2, .pointer (some ⟨g2, 0, none⟩)), (4, .pointer (some ⟨g9, 0, none⟩))]) ⟨rfl, rfl, rfl, rfl, trivial⟩ ?_)
  refine WE.next ?_
  refine WC.seq ?_
  refine WC.region ?_
  refine WL.val (.pointer (some ⟨g2, 0, none⟩)) rfl rfl rfl (fun za zC zh zk => fld_24_0 rfl (zh.ev rfl) zk) ?_
  have hB16 := hB4.below hb12
  refine WL.val (.int .i64 f) rfl rfl rfl (fun za zC zh zk => ld_3 rfl (zh.ev rfl) ((hB16.cell 0).trans rfl) zk) ?_
  refine WL.val (.agg #[.int .i64 f, .slice none 0 0]) rfl rfl rfl (fun za zC zh zk => build_24_0 rfl (zh.ev rfl) zk) ?_
  refine WL.step (post := NewBlk w8 24 #[.int .i64 0, .slice none 0 0]) rfl rfl rfl (fun za zC zh zk => alloc_24 rfl (zk _ _ (newBlk _ _ _))) ?_
  rintro _ w17 ⟨g18, rfl, hg19, hB20, hb21, hz22⟩
  have hl23 : g2 < g18 := by have z1 := hB16.lt; omega
  have hl24 : g9 < g18 := by have z1 := hB11.lt; omega
  have hb25 : Below w.heap.size w w8 := (bstep hb5 hb12)
  have hl26 : w.heap.size ≤ g18 := by have z2 := (hb25).size; omega
  refine WL.step (post := fun _ w' => Upd g18 w17 w' ∧ Blk w' g18 24 #[.int .i64 f, .slice none 0 0]) rfl rfl rfl (fun za zC zh zk => st_24 rfl (zh.ev rfl) (zh.ev rfl) rfl rfl hB20 (by first | decide | simp) (fun v => zk v _ ⟨(Upd.at_ _ _ _ _).trans (Upd.at_ _ _ _ _), (hB20.set_ 0 _).set_ 1 _⟩)) ?_
  rintro v30 w27 ⟨hu28, hB29⟩
  have hb31 : Below w.heap.size w w17 := (bstep hb25 hb21)
  have hb32 := upd_below hb31 hu28 (by omega)
  have hB33 := hB16.below hb21
  have hB34 := upd_blk hB33 hu28 (by omega)
  have hB35 := hB11.below hb21
  have hB36 := upd_blk hB35 hu28 (by omega)
  refine WL.nil (WE.sub (K' := [(0, .agg #[.int .i64 f, .slice pa0 l.length pc0]), (1, .func (.func 47) #[] #[.pointer (some ⟨gn, 0, none⟩), .pointer (some ⟨gs, 0, none⟩)]), (2, .pointer (some ⟨g2, 0, none⟩)), (4, .pointer (some ⟨g9, 0, none⟩)), (5, .pointer (some ⟨g18, 0, none⟩))]) ⟨rfl, rfl, rfl, rfl, rfl, trivial⟩ ?_)
  refine WE.next ?_
  refine WC.seq ?_
  refine WC.seq ?_
  refine WC.region ?_
  refine WL.val (.pointer (some ⟨g2, 0, none⟩)) rfl rfl rfl (fun za zC zh zk => fld_24_0 rfl (zh.ev rfl) zk) ?_
  refine WL.val (.int .i64 f) rfl rfl rfl (fun za zC zh zk => ld_3 rfl (zh.ev rfl) ((hB34.cell 0).trans rfl) zk) ?_
  refine WL.val (.bool ((decide ((f : Int) < (0 : Int))))) rfl rfl rfl (fun za zC zh zk => lss_3 rfl (zh.ev rfl) (zh.ev rfl) zk) ?_
  refine WL.nil (WE.sub (K' := [(0, .agg #[.int .i64 f, .slice pa0 l.length pc0]), (1, .func (.func 47) #[] #[.pointer (some ⟨gn, 0, none⟩), .pointer (some ⟨gs, 0, none⟩)]), (2, .pointer (some ⟨g2, 0, none⟩)), (4, .pointer (some ⟨g9, 0, none⟩)), (5, .pointer (some ⟨g18, 0, none⟩)), (13, .bool ((decide ((f : Int) < (0 : Int)))))]) ⟨rfl, rfl, rfl, rfl, rfl, rfl, trivial⟩ ?_)
  refine WE.next ?_
  refine WC.cond rfl (fun h37 => ?_) (fun h37 => ?_)
  · have h37 : (f : Int) < (0 : Int) := by simpa using h37
    refine WC.region ?_
    refine WL.val (.func (.func 47) #[] #[.pointer (some ⟨gn, 0, none⟩), .pointer (some ⟨gs, 0, none⟩)]) rfl rfl rfl (fun za zC zh zk => wp_move rfl (zh.ev rfl) zk) ?_
    refine WL.val (.pointer (some ⟨g2, 0, none⟩)) rfl rfl rfl (fun za zC zh zk => fld_24_0 rfl (zh.ev rfl) zk) ?_
    refine WL.val (.int .i64 f) rfl rfl rfl (fun za zC zh zk => ld_3 rfl (zh.ev rfl) ((hB34.cell 0).trans rfl) zk) ?_
    refine WL.val (.int .i64 ((-1 - f))) rfl rfl rfl (fun za zC zh zk => subb_3 rfl (zh.ev rfl) (zh.ev rfl) (wrap_eq rfl (by omega) (by omega)) zk) ?_
    have hl38 : g2 < w27.heap.size := hB34.lt
    have hl39 : w.heap.size ≤ g2 := by have z : w.heap.size ≤ w.heap.size := (Nat.le_refl _); omega
    have hl40 : g9 < w27.heap.size := hB36.lt
    have hl41 : w.heap.size ≤ g9 := by have z : w.heap.size ≤ w1.heap.size := hb5.size; omega
    have hl42 : g18 < w27.heap.size := hB29.lt
    have hl43 : w.heap.size ≤ g18 := by have z : w.heap.size ≤ w8.heap.size := hb25.size; omega
    refine WL.call rfl rfl rfl (fun za zh zC => wp_callv (by kernel_rfl) rfl (zh.ev rfl) (hv1 (zh.ev rfl))) (nto_any (-1 - f) _ (h.below hb32) (by unfold I64; omega) (by omega)) ?_
    rintro _ w44 ⟨⟨C1, rfl, hM1, hC1⟩, hc1⟩
    have hB45 := chg_blk hB34 hc1 (fun h => by have z := hClt _ h; (try dsimp only at *); omega)
    have hB46 := chg_blk hB36 hc1 (fun h => by have z := hClt _ h; (try dsimp only at *); omega)
    have hB47 := chg_blk hB29 hc1 (fun h => by have z := hClt _ h; (try dsimp only at *); omega)
    refine WL.val (.int .i64 ((-1 - (((nmTo ns (-1 - f)).1 : Nat) : Int)))) rfl rfl rfl (fun za zC zh zk => subb_3 rfl (zh.ev rfl) (zh.ev rfl) (wrap_eq rfl (by omega) (by omega)) zk) ?_
    refine WL.val (.pointer (some ⟨g18, 0, none⟩)) rfl rfl rfl (fun za zC zh zk => fld_24_0 rfl (zh.ev rfl) zk) ?_
    refine WL.step (post := fun _ w' => Upd g18 w44 w' ∧ Blk w' g18 24 #[.int .i64 ((-1 - (((nmTo ns (-1 - f)).1 : Nat) : Int))), .slice none 0 0]) rfl rfl rfl (fun za zC zh zk => st_3 rfl (zh.ev rfl) (zh.ev rfl) hB47 (by first | decide | simp) (fun v => zk v _ ⟨Upd.at_ _ _ _ _, hB47.set_ 0 _⟩)) ?_
    rintro v51 w48 ⟨hu49, hB50⟩
    have hB52 := upd_blk hB45 hu49 (by omega)
    have hB53 := upd_blk hB46 hu49 (by omega)
    refine WL.nil (WE.sub (K' := [(0, .agg #[.int .i64 f, .slice pa0 l.length pc0]), (1, .func (.func 47) #[] #[.pointer (some ⟨gn, 0, none⟩), .pointer (some ⟨gs, 0, none⟩)]), (2, .pointer (some ⟨g2, 0, none⟩)), (4, .pointer (some ⟨g9, 0, none⟩)), (5, .pointer (some ⟨g18, 0, none⟩)), (13, .bool ((decide ((f : Int) < (0 : Int)))))]) ⟨rfl, rfl, rfl, rfl, rfl, rfl, trivial⟩ ?_)
    refine WE.next ?_
    refine WC.seq ?_
    refine WC.seq ?_
    refine WC.region ?_
    refine WL.val (.pointer (some ⟨g2, 1, none⟩)) rfl rfl rfl (fun za zC zh zk => fld_24_1 rfl (zh.ev rfl) zk) ?_
    refine WL.val (.slice pa0 l.length pc0) rfl rfl rfl (fun za zC zh zk => ld_22 rfl (zh.ev rfl) ((hB52.cell 1).trans rfl) zk) ?_
    refine WL.val (.int .i64 (((l.length : Nat) : Int))) rfl rfl rfl (fun za zC zh zk => len_22 rfl (zh.ev rfl) zk) ?_
    refine WL.val (.int .i64 0) rfl rfl rfl (fun za zC zh zk => wp_move rfl (zh.ev rfl) zk) ?_
    refine WL.nil (WE.sub (K' := [(0, .agg #[.int .i64 f, .slice pa0 l.length pc0]), (1, .func (.func 47) #[] #[.pointer (some ⟨gn, 0, none⟩), .pointer (some ⟨gs, 0, none⟩)]), (2, .pointer (some ⟨g2, 0, none⟩)), (4, .pointer (some ⟨g9, 0, none⟩)), (5, .pointer (some ⟨g18, 0, none⟩)), (13, .bool ((decide ((f : Int) < (0 : Int))))), (22, .slice pa0 l.length pc0), (23, .int .i64 (((l.length : Nat) : Int))), (24, .int .i64 0)]) ⟨rfl, rfl, rfl, rfl, rfl, rfl, rfl, rfl, rfl, trivial⟩ ?_)
    refine WE.next ?_
    refine WC.block ?_
    have hl54 : g2 < w48.heap.size := hB52.lt
    have hl55 : w.heap.size ≤ g2 := by have z : w.heap.size ≤ w.heap.size := (Nat.le_refl _); omega
    have hl56 : g9 < w48.heap.size := hB53.lt
    have hl57 : w.heap.size ≤ g9 := by have z : w.heap.size ≤ w1.heap.size := hb5.size; omega
    have hl58 : g18 < w48.heap.size := hB50.lt
    have hl59 : w.heap.size ≤ g18 := by have z : w.heap.size ≤ w8.heap.size := hb25.size; omega
    have hs60 : Chg ((fun b => b = g18)) w44 w48 := (Chg.trans2 (Chg.refl ((fun b => b = g18)) _) (Chg.ofUpd (S := fun k => k = g18) hu49 rfl) (fun i h1 h2 => by first | exact h2 | exact .inl ⟨h2, h1⟩ | exact .inl h2 | exact .inr h2 | exact .inr (.inl h2) | exact .inr (.inr h2) | ((try dsimp only at *); omega)))
    have hwc : w.heap.size ≤ w27.heap.size := hb32.size
    have hMs := hM1.chg hs60 (fun b q e => by have z := hC1 b q; subst e; rcases z with z | z; (have z2 := hClt _ z; omega); omega)
    have hst0 : RnSt C (fun b => w.heap.size ≤ b ∧ b ≠ g2 ∧ b ≠ g9 ∧ b ≠ g18) gn gs (nmTo ns (-1 - f)).2 [] none 0 0 w48 := RnSt.start hMs (fun b q => (hC1 b q).imp id (fun q => by (try dsimp only); omega))
    have hs61 : Chg ((fun b => (C b ∧ b < w.heap.size) ∨ w.heap.size ≤ b)) w w48 := (Chg.trans2 (Chg.trans2 (Chg.trans2 (Chg.refl ((fun b => (C b ∧ b < w.heap.size) ∨ w.heap.size ≤ b)) _) (Chg.ofBelow (S := fun k => k < 0) hb32) (fun i h1 h2 => by first | exact h2 | exact .inl ⟨h2, h1⟩ | exact .inl h2 | exact .inr h2 | exact .inr (.inl h2) | exact .inr (.inr h2) | ((try dsimp only at *); omega))) hc1 (fun i h1 h2 => by first | exact h2 | exact .inl ⟨h2, h1⟩ | exact .inl h2 | exact .inr h2 | exact .inr (.inl h2) | exact .inr (.inr h2) | ((try dsimp only at *); omega))) (Chg.ofUpd (S := fun k => k = g18) hu49 rfl) (fun i h1 h2 => by first | exact h2 | exact .inl ⟨h2, h1⟩ | exact .inl h2 | exact .inr h2 | exact .inr (.inl h2) | exact .inr (.inr h2) | ((try dsimp only at *); omega)))
    have hcS : Chg (fun b => (C b ∧ b < w.heap.size) ∨ w.heap.size ≤ b) w w48 := hs61
    refine WC.loop (X := Nat × Option Addr × Nat) (fun x => l.length - x.1) (fun x => [(0, .agg #[.int .i64 f, .slice pa0 l.length pc0]), (1, .func (.func 47) #[] #[.pointer (some ⟨gn, 0, none⟩), .pointer (some ⟨gs, 0, none⟩)]), (2, .pointer (some ⟨g2, 0, none⟩)), (4, .pointer (some ⟨g9, 0, none⟩)), (5, .pointer (some ⟨g18, 0, none⟩)), (13, .bool ((decide ((f : Int) < (0 : Int))))), (22, .slice pa0 l.length pc0), (23, .int .i64 (((l.length : Nat) : Int))), (24, .int .i64 (((x.1 : Nat) : Int)))]) (fun x w62 => x.1 ≤ l.length ∧ Blk w62 g2 24 #[.int .i64 f, .slice pa0 l.length pc0] ∧ Blk w62 g9 24 #[.int .i64 0, .slice none 0 0] ∧ Blk w62 g18 24 #[.int .i64 ((-1 - (((nmTo ns (-1 - f)).1 : Nat) : Int))), .slice x.2.1 x.1 x.2.2] ∧ RnSt C (fun b => w.heap.size ≤ b ∧ b ≠ g2 ∧ b ≠ g9 ∧ b ≠ g18) gn gs (T.rnL (l.take x.1) (nmTo ns (-1 - f)).2).2 (T.rnL (l.take x.1) (nmTo ns (-1 - f)).2).1 x.2.1 x.2.2 x.1 (w62) ∧ Chg ((fun b => (C b ∧ b < w.heap.size) ∨ w.heap.size ≤ b)) w w62) ((0, none, 0)) ⟨rfl, rfl, rfl, rfl, rfl, rfl, rfl, rfl, rfl, trivial⟩ ?_ ?_
    · have hs63 : Chg ((fun b => (C b ∧ b < w.heap.size) ∨ w.heap.size ≤ b)) w w48 := (Chg.trans2 (Chg.trans2 (Chg.trans2 (Chg.refl ((fun b => (C b ∧ b < w.heap.size) ∨ w.heap.size ≤ b)) _) (Chg.ofBelow (S := fun k => k < 0) hb32) (fun i h1 h2 => by first | exact h2 | exact .inl ⟨h2, h1⟩ | exact .inl h2 | exact .inr h2 | exact .inr (.inl h2) | exact .inr (.inr h2) | ((try dsimp only at *); omega))) hc1 (fun i h1 h2 => by first | exact h2 | exact .inl ⟨h2, h1⟩ | exact .inl h2 | exact .inr h2 | exact .inr (.inl h2) | exact .inr (.inr h2) | ((try dsimp only at *); omega))) (Chg.ofUpd (S := fun k => k = g18) hu49 rfl) (fun i h1 h2 => by first | exact h2 | exact .inl ⟨h2, h1⟩ | exact .inl h2 | exact .inr h2 | exact .inr (.inl h2) | exact .inr (.inr h2) | ((try dsimp only at *); omega)))
      exact ⟨Nat.zero_le _, hB52, hB53, hB50, (by simpa [T.rnL] using hst0), hs63⟩
    · rintro x w62 ⟨hk, hB64, hB65, hB66, ho67, hc68⟩
      refine WC.seq ?_
      refine WC.region ?_
      refine WL.val (.bool ((decide ((((x.1 : Nat) : Int) : Int) < (((l.length : Nat) : Int) : Int))))) rfl rfl rfl (fun za zC zh zk => lss_3 rfl (zh.ev rfl) (zh.ev rfl) zk) ?_
      refine WL.nil (WE.sub (K' := [(0, .agg #[.int .i64 f, .slice pa0 l.length pc0]), (1, .func (.func 47) #[] #[.pointer (some ⟨gn, 0, none⟩), .pointer (some ⟨gs, 0, none⟩)]), (2, .pointer (some ⟨g2, 0, none⟩)), (4, .pointer (some ⟨g9, 0, none⟩)), (5, .pointer (some ⟨g18, 0, none⟩)), (13, .bool ((decide ((f : Int) < (0 : Int))))), (22, .slice pa0 l.length pc0), (23, .int .i64 (((l.length : Nat) : Int))), (24, .int .i64 (((x.1 : Nat) : Int))), (25, .bool ((decide ((((x.1 : Nat) : Int) : Int) < (((l.length : Nat) : Int) : Int)))))]) ⟨rfl, rfl, rfl, rfl, rfl, rfl, rfl, rfl, rfl, rfl, trivial⟩ ?_)
      refine WE.next ?_
      refine WC.seq ?_
      refine WC.cond rfl (fun h69 => ?_) (fun h69 => ?_)
      · have h69 : (((x.1 : Nat) : Int) : Int) < (((l.length : Nat) : Int) : Int) := by simpa using h69
        refine WC.skip ?_
        refine WE.next ?_
        refine WC.seq ?_
        refine WC.block ?_
        refine WC.seq ?_
        have hs70 : Chg ((fun b => (C b ∧ b < w.heap.size) ∨ w.heap.size ≤ b)) w w62 := (Chg.trans2 (Chg.refl ((fun b => (C b ∧ b < w.heap.size) ∨ w.heap.size ≤ b)) _) hc68 (fun i h1 h2 => by first | exact h2 | exact .inl ⟨h2, h1⟩ | exact .inl h2 | exact .inr h2 | exact .inr (.inl h2) | exact .inr (.inr h2) | ((try dsimp only at *); omega)))
        obtain ⟨pb, po, hpa, hpk⟩ := InTp.arg (b := 0) (o := 0) (ht0.chg hs70 hA0) x.1 (by simp; omega)
        obtain ⟨pka, pkc, hpk1, hpk2, hpk3⟩ := InTp.at9 hpk
        simp only [T.args_mk] at hpk1 hpk2 hpk3
        have hpz := T.size_le_sizeL (tget_mem (l := l) (k := x.1) (by omega))
        have hst1 := sizeL_take1 (l := l) (k := x.1) (by omega)
        have hst2 := T.sizeL_take_le l (x.1 + 1)
        have hrl := T.rnL_len' (l.take x.1) (nmTo ns (-1 - f)).2
        refine WC.region ?_
        refine WL.val (.pointer (some ⟨pb, po + x.1 * 2, none⟩)) rfl rfl rfl (fun za zC zh zk => ix_22 (k := x.1) rfl (zh.ev rfl) hpa (zh.ev rfl) (by first | omega | (simp; omega)) zk) ?_
        refine WL.val (.agg #[.int .i64 ((tget l x.1).f), .slice pka ((tget l x.1).args.length) pkc]) rfl rfl rfl (fun za zC zh zk => ld_24 rfl (zh.ev rfl) hpk1 hpk2 zk) ?_
        refine WL.step (post := NewBlk w62 24 #[.int .i64 0, .slice none 0 0]) rfl rfl rfl (fun za zC zh zk => alloc_24 rfl (zk _ _ (newBlk _ _ _))) ?_
        rintro _ w71 ⟨g72, rfl, hg73, hB74, hb75, hz76⟩
        have hl77 : g2 < g72 := by have z1 := hB64.lt; omega
        have hl78 : g9 < g72 := by have z1 := hB65.lt; omega
        have hl79 : g18 < g72 := by have z1 := hB66.lt; omega
        have hl80 : w62.heap.size ≤ g72 := by omega
        refine WL.step (post := fun _ w' => Upd g72 w71 w' ∧ Blk w' g72 24 #[.int .i64 ((tget l x.1).f), .slice pka ((tget l x.1).args.length) pkc]) rfl rfl rfl (fun za zC zh zk => st_24 rfl (zh.ev rfl) (zh.ev rfl) rfl rfl hB74 (by first | decide | simp) (fun v => zk v _ ⟨(Upd.at_ _ _ _ _).trans (Upd.at_ _ _ _ _), (hB74.set_ 0 _).set_ 1 _⟩)) ?_
        rintro v84 w81 ⟨hu82, hB83⟩
        have hb85 := upd_below hb75 hu82 (by omega)
        have hB86 := hB64.below hb75
        have hB87 := upd_blk hB86 hu82 (by omega)
        have hB88 := hB65.below hb75
        have hB89 := upd_blk hB88 hu82 (by omega)
        have hB90 := hB66.below hb75
        have hB91 := upd_blk hB90 hu82 (by omega)
        refine WL.nil (WE.sub (K' := [(0, .agg #[.int .i64 f, .slice pa0 l.length pc0]), (1, .func (.func 47) #[] #[.pointer (some ⟨gn, 0, none⟩), .pointer (some ⟨gs, 0, none⟩)]), (2, .pointer (some ⟨g2, 0, none⟩)), (4, .pointer (some ⟨g9, 0, none⟩)), (5, .pointer (some ⟨g18, 0, none⟩)), (7, .pointer (some ⟨g72, 0, none⟩)), (13, .bool ((decide ((f : Int) < (0 : Int))))), (22, .slice pa0 l.length pc0), (23, .int .i64 (((l.length : Nat) : Int))), (24, .int .i64 (((x.1 : Nat) : Int))), (25, .bool ((decide ((((x.1 : Nat) : Int) : Int) < (((l.length : Nat) : Int) : Int)))))]) ⟨rfl, rfl, rfl, rfl, rfl, rfl, rfl, rfl, rfl, rfl, rfl, trivial⟩ ?_)
        refine WE.next ?_
        have hl92 : g2 < w81.heap.size := hB87.lt
        have hl93 : g9 < w81.heap.size := hB89.lt
        have hl94 : g18 < w81.heap.size := hB91.lt
        have hl95 : g72 < w81.heap.size := hB83.lt
        have hl96 : w62.heap.size ≤ g72 := by have z : w62.heap.size ≤ w62.heap.size := (Nat.le_refl _); omega
        have hw0 : w.heap.size ≤ w81.heap.size := (Nat.le_trans hc68.size hb85.size)
        obtain ⟨Ck, hk1, hk2, hk30, hk4⟩ := (RnSt.mono (N' := (fun b => w.heap.size ≤ b ∧ b ≠ g2 ∧ b ≠ g9 ∧ b ≠ g18 ∧ b ≠ g72)) ho67 (fun b q z => by (try dsimp only at *); omega)).below hb85
        have hkl : ∀ b, (Value.slice x.2.1 x.1 x.2.2).ownBlock = some b → b < w81.heap.size := hk30.lt
        have hk3 := hk30.mono (S' := fun b => ((fun b => w.heap.size ≤ b ∧ b ≠ g2 ∧ b ≠ g9 ∧ b ≠ g18 ∧ b ≠ g72) b ∧ ¬ Ck b ∧ (Value.slice x.2.1 x.1 x.2.2).ownBlock ≠ some b) ∧ b < w81.heap.size) (fun b q z => ⟨q, z⟩) (fun b q => q.1.2.2)
        have hnC : ∀ b, Ck b → b < w.heap.size ∨ (fun b => w.heap.size ≤ b ∧ b ≠ g2 ∧ b ≠ g9 ∧ b ≠ g18 ∧ b ≠ g72) b := fun b q => (hk2 b q).imp (hClt b) id
        have hnA : ∀ b, (A b ∧ b < w.heap.size) → ¬ (fun b => Ck b ∨ (Value.slice x.2.1 x.1 x.2.2).ownBlock = some b ∨ b = g18) b := fun b q q2 => by
          rcases q2 with q2 | q2 | q2
          · rcases hk2 b q2 with z | z
            · exact hA b q.1 z
            · (try dsimp only at z); omega
          · have z := (hk4 b q2).1; (try dsimp only at z); omega
          · omega
        have hns97 : ¬ (fun b => Ck b ∨ (Value.slice x.2.1 x.1 x.2.2).ownBlock = some b ∨ b = g18) g2 := fun q => by
          rcases q with q | q | q
          · rcases hnC _ q with z | z
            · omega
            · (try dsimp only at z); omega
          · have z := (hk4 _ q).1; (try dsimp only at z); omega
          · omega
        have hns98 : ¬ (fun b => Ck b ∨ (Value.slice x.2.1 x.1 x.2.2).ownBlock = some b ∨ b = g18) g9 := fun q => by
          rcases q with q | q | q
          · rcases hnC _ q with z | z
            · omega
            · (try dsimp only at z); omega
          · have z := (hk4 _ q).1; (try dsimp only at z); omega
          · omega
        have hns99 : ¬ (fun b => Ck b ∨ (Value.slice x.2.1 x.1 x.2.2).ownBlock = some b ∨ b = g18) g72 := fun q => by
          rcases q with q | q | q
          · rcases hnC _ q with z | z
            · omega
            · (try dsimp only at z); omega
          · have z := (hk4 _ q).1; (try dsimp only at z); omega
          · omega
        have hn5 : ¬ Ck g18 := fun q => by rcases hnC _ q with z | z; omega; (try dsimp only at z); omega
        have ho5 : (Value.slice x.2.1 x.1 x.2.2).ownBlock ≠ some g18 := fun q => by have z := (hk4 _ q).1; (try dsimp only at z); omega
        have hcap7 := hk3.inRow
        have hcap8 := hcap7.2.2
        unfold maxLen at hcap8
        have hpk4 := InT.below hb85 hpk3
        have hGV9 : ∀ (vals : List Value) (wa wb : World), Below wa.heap.size wa wb → (fun vals wz => match vals with | [] => NmAt wz gn gs (T.rnL (l.take x.1) (nmTo ns (-1 - f)).2).2 Ck ∧ RowD eltT (fun b => ((fun b => w.heap.size ≤ b ∧ b ≠ g2 ∧ b ≠ g9 ∧ b ≠ g18 ∧ b ≠ g72) b ∧ ¬ Ck b ∧ (Value.slice x.2.1 x.1 x.2.2).ownBlock ≠ some b) ∧ b < w81.heap.size) wz 24 x.2.1 x.2.2 x.1 (T.rnL (l.take x.1) (nmTo ns (-1 - f)).2).1 ∧ Blk wz g18 24 #[.int .i64 ((-1 - (((nmTo ns (-1 - f)).1 : Nat) : Int))), .slice x.2.1 x.1 x.2.2] | [z0] => ∃ C2, NmAt wz gn gs (T.rn (tget l x.1) (T.rnL (l.take x.1) (nmTo ns (-1 - f)).2).2).2 C2 ∧ (∀ b, C2 b → Ck b ∨ w81.heap.size ≤ b) ∧ InT (fun b => w81.heap.size ≤ b ∧ ¬ C2 b) wz (T.rn (tget l x.1) (T.rnL (l.take x.1) (nmTo ns (-1 - f)).2).2).1 z0 ∧ RowD eltT (fun b => ((fun b => w.heap.size ≤ b ∧ b ≠ g2 ∧ b ≠ g9 ∧ b ≠ g18 ∧ b ≠ g72) b ∧ ¬ Ck b ∧ (Value.slice x.2.1 x.1 x.2.2).ownBlock ≠ some b) ∧ b < w81.heap.size) wz 24 x.2.1 x.2.2 x.1 (T.rnL (l.take x.1) (nmTo ns (-1 - f)).2).1 ∧ Blk wz g18 24 #[.int .i64 ((-1 - (((nmTo ns (-1 - f)).1 : Nat) : Int))), .slice x.2.1 x.1 x.2.2] | [_, z1] => ∃ C2 g1 cs, z1 = .slice (some ⟨g1, 0, none⟩) 1 1 ∧ Blk wz g1 24 (List.toArray cs) ∧ eltT.In (fun b => w81.heap.size ≤ b ∧ ¬ C2 b) wz (T.rn (tget l x.1) (T.rnL (l.take x.1) (nmTo ns (-1 - f)).2).2).1 cs ∧ NmAt wz gn gs (T.rn (tget l x.1) (T.rnL (l.take x.1) (nmTo ns (-1 - f)).2).2).2 C2 ∧ (∀ b, C2 b → Ck b ∨ w81.heap.size ≤ b) ∧ RowD eltT (fun b => ((fun b => w.heap.size ≤ b ∧ b ≠ g2 ∧ b ≠ g9 ∧ b ≠ g18 ∧ b ≠ g72) b ∧ ¬ Ck b ∧ (Value.slice x.2.1 x.1 x.2.2).ownBlock ≠ some b) ∧ b < w81.heap.size) wz 24 x.2.1 x.2.2 x.1 (T.rnL (l.take x.1) (nmTo ns (-1 - f)).2).1 ∧ Blk wz g18 24 #[.int .i64 ((-1 - (((nmTo ns (-1 - f)).1 : Nat) : Int))), .slice x.2.1 x.1 x.2.2] | [_, _, z2] => ∃ C2 ra2 rc2 Z, z2 = .slice ra2 (x.1 + 1) rc2 ∧ NmAt wz gn gs (T.rn (tget l x.1) (T.rnL (l.take x.1) (nmTo ns (-1 - f)).2).2).2 C2 ∧ (∀ b, C2 b → Ck b ∨ w81.heap.size ≤ b) ∧ RowD eltT Z wz 24 ra2 rc2 (x.1 + 1) ((T.rnL (l.take x.1) (nmTo ns (-1 - f)).2).1 ++ [(T.rn (tget l x.1) (T.rnL (l.take x.1) (nmTo ns (-1 - f)).2).2).1]) ∧ (∀ b, Z b → ((fun b => w.heap.size ≤ b ∧ b ≠ g2 ∧ b ≠ g9 ∧ b ≠ g18 ∧ b ≠ g72) b ∧ ¬ Ck b ∧ b < w81.heap.size) ∨ (w81.heap.size ≤ b ∧ ¬ C2 b)) ∧ (∀ b, (Value.slice ra2 (x.1 + 1) rc2).ownBlock = some b → (Value.slice x.2.1 x.1 x.2.2).ownBlock = some b ∨ (w81.heap.size ≤ b ∧ ¬ C2 b)) ∧ Blk wz g18 24 #[.int .i64 ((-1 - (((nmTo ns (-1 - f)).1 : Nat) : Int))), .slice x.2.1 x.1 x.2.2] | [_, _, z2, _] => ∃ C2 ra2 rc2 Z, z2 = .slice ra2 (x.1 + 1) rc2 ∧ NmAt wz gn gs (T.rn (tget l x.1) (T.rnL (l.take x.1) (nmTo ns (-1 - f)).2).2).2 C2 ∧ (∀ b, C2 b → Ck b ∨ w81.heap.size ≤ b) ∧ RowD eltT Z wz 24 ra2 rc2 (x.1 + 1) ((T.rnL (l.take x.1) (nmTo ns (-1 - f)).2).1 ++ [(T.rn (tget l x.1) (T.rnL (l.take x.1) (nmTo ns (-1 - f)).2).2).1]) ∧ (∀ b, Z b → ((fun b => w.heap.size ≤ b ∧ b ≠ g2 ∧ b ≠ g9 ∧ b ≠ g18 ∧ b ≠ g72) b ∧ ¬ Ck b ∧ b < w81.heap.size) ∨ (w81.heap.size ≤ b ∧ ¬ C2 b)) ∧ (∀ b, (Value.slice ra2 (x.1 + 1) rc2).ownBlock = some b → (Value.slice x.2.1 x.1 x.2.2).ownBlock = some b ∨ (w81.heap.size ≤ b ∧ ¬ C2 b)) ∧ Blk wz g18 24 #[.int .i64 ((-1 - (((nmTo ns (-1 - f)).1 : Nat) : Int))), .slice ra2 (x.1 + 1) rc2] | _ => False) vals wa → (fun vals wz => match vals with | [] => NmAt wz gn gs (T.rnL (l.take x.1) (nmTo ns (-1 - f)).2).2 Ck ∧ RowD eltT (fun b => ((fun b => w.heap.size ≤ b ∧ b ≠ g2 ∧ b ≠ g9 ∧ b ≠ g18 ∧ b ≠ g72) b ∧ ¬ Ck b ∧ (Value.slice x.2.1 x.1 x.2.2).ownBlock ≠ some b) ∧ b < w81.heap.size) wz 24 x.2.1 x.2.2 x.1 (T.rnL (l.take x.1) (nmTo ns (-1 - f)).2).1 ∧ Blk wz g18 24 #[.int .i64 ((-1 - (((nmTo ns (-1 - f)).1 : Nat) : Int))), .slice x.2.1 x.1 x.2.2] | [z0] => ∃ C2, NmAt wz gn gs (T.rn (tget l x.1) (T.rnL (l.take x.1) (nmTo ns (-1 - f)).2).2).2 C2 ∧ (∀ b, C2 b → Ck b ∨ w81.heap.size ≤ b) ∧ InT (fun b => w81.heap.size ≤ b ∧ ¬ C2 b) wz (T.rn (tget l x.1) (T.rnL (l.take x.1) (nmTo ns (-1 - f)).2).2).1 z0 ∧ RowD eltT (fun b => ((fun b => w.heap.size ≤ b ∧ b ≠ g2 ∧ b ≠ g9 ∧ b ≠ g18 ∧ b ≠ g72) b ∧ ¬ Ck b ∧ (Value.slice x.2.1 x.1 x.2.2).ownBlock ≠ some b) ∧ b < w81.heap.size) wz 24 x.2.1 x.2.2 x.1 (T.rnL (l.take x.1) (nmTo ns (-1 - f)).2).1 ∧ Blk wz g18 24 #[.int .i64 ((-1 - (((nmTo ns (-1 - f)).1 : Nat) : Int))), .slice x.2.1 x.1 x.2.2] | [_, z1] => ∃ C2 g1 cs, z1 = .slice (some ⟨g1, 0, none⟩) 1 1 ∧ Blk wz g1 24 (List.toArray cs) ∧ eltT.In (fun b => w81.heap.size ≤ b ∧ ¬ C2 b) wz (T.rn (tget l x.1) (T.rnL (l.take x.1) (nmTo ns (-1 - f)).2).2).1 cs ∧ NmAt wz gn gs (T.rn (tget l x.1) (T.rnL (l.take x.1) (nmTo ns (-1 - f)).2).2).2 C2 ∧ (∀ b, C2 b → Ck b ∨ w81.heap.size ≤ b) ∧ RowD eltT (fun b => ((fun b => w.heap.size ≤ b ∧ b ≠ g2 ∧ b ≠ g9 ∧ b ≠ g18 ∧ b ≠ g72) b ∧ ¬ Ck b ∧ (Value.slice x.2.1 x.1 x.2.2).ownBlock ≠ some b) ∧ b < w81.heap.size) wz 24 x.2.1 x.2.2 x.1 (T.rnL (l.take x.1) (nmTo ns (-1 - f)).2).1 ∧ Blk wz g18 24 #[.int .i64 ((-1 - (((nmTo ns (-1 - f)).1 : Nat) : Int))), .slice x.2.1 x.1 x.2.2] | [_, _, z2] => ∃ C2 ra2 rc2 Z, z2 = .slice ra2 (x.1 + 1) rc2 ∧ NmAt wz gn gs (T.rn (tget l x.1) (T.rnL (l.take x.1) (nmTo ns (-1 - f)).2).2).2 C2 ∧ (∀ b, C2 b → Ck b ∨ w81.heap.size ≤ b) ∧ RowD eltT Z wz 24 ra2 rc2 (x.1 + 1) ((T.rnL (l.take x.1) (nmTo ns (-1 - f)).2).1 ++ [(T.rn (tget l x.1) (T.rnL (l.take x.1) (nmTo ns (-1 - f)).2).2).1]) ∧ (∀ b, Z b → ((fun b => w.heap.size ≤ b ∧ b ≠ g2 ∧ b ≠ g9 ∧ b ≠ g18 ∧ b ≠ g72) b ∧ ¬ Ck b ∧ b < w81.heap.size) ∨ (w81.heap.size ≤ b ∧ ¬ C2 b)) ∧ (∀ b, (Value.slice ra2 (x.1 + 1) rc2).ownBlock = some b → (Value.slice x.2.1 x.1 x.2.2).ownBlock = some b ∨ (w81.heap.size ≤ b ∧ ¬ C2 b)) ∧ Blk wz g18 24 #[.int .i64 ((-1 - (((nmTo ns (-1 - f)).1 : Nat) : Int))), .slice x.2.1 x.1 x.2.2] | [_, _, z2, _] => ∃ C2 ra2 rc2 Z, z2 = .slice ra2 (x.1 + 1) rc2 ∧ NmAt wz gn gs (T.rn (tget l x.1) (T.rnL (l.take x.1) (nmTo ns (-1 - f)).2).2).2 C2 ∧ (∀ b, C2 b → Ck b ∨ w81.heap.size ≤ b) ∧ RowD eltT Z wz 24 ra2 rc2 (x.1 + 1) ((T.rnL (l.take x.1) (nmTo ns (-1 - f)).2).1 ++ [(T.rn (tget l x.1) (T.rnL (l.take x.1) (nmTo ns (-1 - f)).2).2).1]) ∧ (∀ b, Z b → ((fun b => w.heap.size ≤ b ∧ b ≠ g2 ∧ b ≠ g9 ∧ b ≠ g18 ∧ b ≠ g72) b ∧ ¬ Ck b ∧ b < w81.heap.size) ∨ (w81.heap.size ≤ b ∧ ¬ C2 b)) ∧ (∀ b, (Value.slice ra2 (x.1 + 1) rc2).ownBlock = some b → (Value.slice x.2.1 x.1 x.2.2).ownBlock = some b ∨ (w81.heap.size ≤ b ∧ ¬ C2 b)) ∧ Blk wz g18 24 #[.int .i64 ((-1 - (((nmTo ns (-1 - f)).1 : Nat) : Int))), .slice ra2 (x.1 + 1) rc2] | _ => False) vals wb := by
          intro vals wa wb hb h
          match vals, h with
          | [], h => exact ⟨h.1.below hb, h.2.1.below hb, h.2.2.below hb⟩
          | [z0], h =>
            obtain ⟨C2, k1, k2, k3, k4, k5⟩ := h
            exact ⟨C2, k1.below hb, k2, k3.below hb, k4.below hb, k5.below hb⟩
          | [_, z1], h =>
            obtain ⟨C2, g1, cs, e, k0, k3, k1, k2, k4, k5⟩ := h
            exact ⟨C2, g1, cs, e, k0.below hb, Elt.below (E := eltT) k3 hb, k1.below hb, k2, k4.below hb, k5.below hb⟩
          | [_, _, z2], h =>
            obtain ⟨C2, ra2, rc2, Z, e, k1, k2, k3, k4, k5, k6⟩ := h
            exact ⟨C2, ra2, rc2, Z, e, k1.below hb, k2, k3.below hb, k4, k5, k6.below hb⟩
          | [_, _, z2, _], h =>
            obtain ⟨C2, ra2, rc2, Z, e, k1, k2, k3, k4, k5, k6⟩ := h
            exact ⟨C2, ra2, rc2, Z, e, k1.below hb, k2, k3.below hb, k4, k5, k6.below hb⟩
        refine WC.seqV (S := ((fun b => Ck b ∨ (Value.slice x.2.1 x.1 x.2.2).ownBlock = some b ∨ b = g18))) [(true, .val (.pointer (some ⟨g18, 1, none⟩))), (true, .val (.slice x.2.1 x.1 x.2.2)), (true, .val (.agg #[.int .i64 ((tget l x.1).f), .slice pka ((tget l x.1).args.length) pkc])), (true, .val (.func (.func 47) #[] #[.pointer (some ⟨gn, 0, none⟩), .pointer (some ⟨gs, 0, none⟩)])), (true, .val undef), (true, .val undef), (true, .val undef), (true, .val (.pointer (some ⟨g18, 1, none⟩))), (true, .val undef)] [(0, .agg #[.int .i64 f, .slice pa0 l.length pc0]), (1, .func (.func 47) #[] #[.pointer (some ⟨gn, 0, none⟩), .pointer (some ⟨gs, 0, none⟩)]), (2, .pointer (some ⟨g2, 0, none⟩)), (4, .pointer (some ⟨g9, 0, none⟩)), (5, .pointer (some ⟨g18, 0, none⟩)), (7, .pointer (some ⟨g72, 0, none⟩)), (13, .bool ((decide ((f : Int) < (0 : Int))))), (22, .slice pa0 l.length pc0), (23, .int .i64 (((l.length : Nat) : Int))), (24, .int .i64 (((x.1 : Nat) : Int))), (25, .bool ((decide ((((x.1 : Nat) : Int) : Int) < (((l.length : Nat) : Int) : Int)))))] [4, 5, 6, 8] [none, none, none, none] (fun vals wz => match vals with | [] => NmAt wz gn gs (T.rnL (l.take x.1) (nmTo ns (-1 - f)).2).2 Ck ∧ RowD eltT (fun b => ((fun b => w.heap.size ≤ b ∧ b ≠ g2 ∧ b ≠ g9 ∧ b ≠ g18 ∧ b ≠ g72) b ∧ ¬ Ck b ∧ (Value.slice x.2.1 x.1 x.2.2).ownBlock ≠ some b) ∧ b < w81.heap.size) wz 24 x.2.1 x.2.2 x.1 (T.rnL (l.take x.1) (nmTo ns (-1 - f)).2).1 ∧ Blk wz g18 24 #[.int .i64 ((-1 - (((nmTo ns (-1 - f)).1 : Nat) : Int))), .slice x.2.1 x.1 x.2.2] | [z0] => ∃ C2, NmAt wz gn gs (T.rn (tget l x.1) (T.rnL (l.take x.1) (nmTo ns (-1 - f)).2).2).2 C2 ∧ (∀ b, C2 b → Ck b ∨ w81.heap.size ≤ b) ∧ InT (fun b => w81.heap.size ≤ b ∧ ¬ C2 b) wz (T.rn (tget l x.1) (T.rnL (l.take x.1) (nmTo ns (-1 - f)).2).2).1 z0 ∧ RowD eltT (fun b => ((fun b => w.heap.size ≤ b ∧ b ≠ g2 ∧ b ≠ g9 ∧ b ≠ g18 ∧ b ≠ g72) b ∧ ¬ Ck b ∧ (Value.slice x.2.1 x.1 x.2.2).ownBlock ≠ some b) ∧ b < w81.heap.size) wz 24 x.2.1 x.2.2 x.1 (T.rnL (l.take x.1) (nmTo ns (-1 - f)).2).1 ∧ Blk wz g18 24 #[.int .i64 ((-1 - (((nmTo ns (-1 - f)).1 : Nat) : Int))), .slice x.2.1 x.1 x.2.2] | [_, z1] => ∃ C2 g1 cs, z1 = .slice (some ⟨g1, 0, none⟩) 1 1 ∧ Blk wz g1 24 (List.toArray cs) ∧ eltT.In (fun b => w81.heap.size ≤ b ∧ ¬ C2 b) wz (T.rn (tget l x.1) (T.rnL (l.take x.1) (nmTo ns (-1 - f)).2).2).1 cs ∧ NmAt wz gn gs (T.rn (tget l x.1) (T.rnL (l.take x.1) (nmTo ns (-1 - f)).2).2).2 C2 ∧ (∀ b, C2 b → Ck b ∨ w81.heap.size ≤ b) ∧ RowD eltT (fun b => ((fun b => w.heap.size ≤ b ∧ b ≠ g2 ∧ b ≠ g9 ∧ b ≠ g18 ∧ b ≠ g72) b ∧ ¬ Ck b ∧ (Value.slice x.2.1 x.1 x.2.2).ownBlock ≠ some b) ∧ b < w81.heap.size) wz 24 x.2.1 x.2.2 x.1 (T.rnL (l.take x.1) (nmTo ns (-1 - f)).2).1 ∧ Blk wz g18 24 #[.int .i64 ((-1 - (((nmTo ns (-1 - f)).1 : Nat) : Int))), .slice x.2.1 x.1 x.2.2] | [_, _, z2] => ∃ C2 ra2 rc2 Z, z2 = .slice ra2 (x.1 + 1) rc2 ∧ NmAt wz gn gs (T.rn (tget l x.1) (T.rnL (l.take x.1) (nmTo ns (-1 - f)).2).2).2 C2 ∧ (∀ b, C2 b → Ck b ∨ w81.heap.size ≤ b) ∧ RowD eltT Z wz 24 ra2 rc2 (x.1 + 1) ((T.rnL (l.take x.1) (nmTo ns (-1 - f)).2).1 ++ [(T.rn (tget l x.1) (T.rnL (l.take x.1) (nmTo ns (-1 - f)).2).2).1]) ∧ (∀ b, Z b → ((fun b => w.heap.size ≤ b ∧ b ≠ g2 ∧ b ≠ g9 ∧ b ≠ g18 ∧ b ≠ g72) b ∧ ¬ Ck b ∧ b < w81.heap.size) ∨ (w81.heap.size ≤ b ∧ ¬ C2 b)) ∧ (∀ b, (Value.slice ra2 (x.1 + 1) rc2).ownBlock = some b → (Value.slice x.2.1 x.1 x.2.2).ownBlock = some b ∨ (w81.heap.size ≤ b ∧ ¬ C2 b)) ∧ Blk wz g18 24 #[.int .i64 ((-1 - (((nmTo ns (-1 - f)).1 : Nat) : Int))), .slice x.2.1 x.1 x.2.2] | [_, _, z2, _] => ∃ C2 ra2 rc2 Z, z2 = .slice ra2 (x.1 + 1) rc2 ∧ NmAt wz gn gs (T.rn (tget l x.1) (T.rnL (l.take x.1) (nmTo ns (-1 - f)).2).2).2 C2 ∧ (∀ b, C2 b → Ck b ∨ w81.heap.size ≤ b) ∧ RowD eltT Z wz 24 ra2 rc2 (x.1 + 1) ((T.rnL (l.take x.1) (nmTo ns (-1 - f)).2).1 ++ [(T.rn (tget l x.1) (T.rnL (l.take x.1) (nmTo ns (-1 - f)).2).2).1]) ∧ (∀ b, Z b → ((fun b => w.heap.size ≤ b ∧ b ≠ g2 ∧ b ≠ g9 ∧ b ≠ g18 ∧ b ≠ g72) b ∧ ¬ Ck b ∧ b < w81.heap.size) ∨ (w81.heap.size ≤ b ∧ ¬ C2 b)) ∧ (∀ b, (Value.slice ra2 (x.1 + 1) rc2).ownBlock = some b → (Value.slice x.2.1 x.1 x.2.2).ownBlock = some b ∨ (w81.heap.size ≤ b ∧ ¬ C2 b)) ∧ Blk wz g18 24 #[.int .i64 ((-1 - (((nmTo ns (-1 - f)).1 : Nat) : Int))), .slice ra2 (x.1 + 1) rc2] | _ => False) hGV9 (by decide) ⟨rfl, rfl, rfl, rfl, rfl, rfl, rfl, rfl, rfl, rfl, rfl, trivial⟩ (by kernel_rfl) (by kernel_rfl) (by kernel_rfl) (by kernel_rfl) (⟨hk1, hk3, hB91⟩) ?_ ?_
        · refine ⟨.inl ⟨rfl, true, .none rfl, (fun gg b h => by cases h), fun h w => optUndef h, fun zβ za zw zc => ?_⟩, ?_⟩
          · exact fld_24_1 rfl (zc.kn.ev rfl) ⟨_, rfl, Below.refl _ _, optDef zβ rfl⟩
          refine ⟨.inl ⟨rfl, true, .none rfl, (fun gg b h => by cases h), fun h w => optUndef h, fun zβ za zw zc => ?_⟩, ?_⟩
          · obtain ⟨vals, hle, hgv, _⟩ := zc.early 2 6 rfl (by kernel_rfl)
            have hb5 : Blk zw g18 24 #[.int .i64 ((-1 - (((nmTo ns (-1 - f)).1 : Nat) : Int))), .slice x.2.1 x.1 x.2.2] := by
              match vals, hle, hgv with
              | [], _, hg => exact hg.2.2
              | [z0], _, hg => obtain ⟨C2, k1, k2, k3, k4, k5⟩ := hg; exact k5
              | [_, z1], _, hg => obtain ⟨C2, g1, cs, e, k0, k3, k1, k2, k4, k5⟩ := hg; exact k5
            exact ld_22 rfl ((show za.eval (.tmp 28) = za.tmps.getD 28 undef from rfl).trans (optSVal (zc.dep 0 28 (by kernel_rfl) (by decide)) rfl rfl)) ((hb5.cell 1).trans rfl) ⟨_, rfl, Below.refl _ _, optDef zβ rfl⟩
          refine ⟨.inl ⟨rfl, true, .none rfl, (fun gg b h => by cases h), fun h w => optUndef h, fun zβ za zw zc => ?_⟩, ?_⟩
          · exact ld_24 rfl (zc.kn.ev rfl) (chg_cell zc.chg (by first | assumption | ((try dsimp only at *); omega)) ((hB83.cell 0).trans rfl)) (chg_cell zc.chg (by first | assumption | ((try dsimp only at *); omega)) ((hB83.cell 1).trans rfl)) ⟨_, rfl, Below.refl _ _, optDef zβ rfl⟩
          refine ⟨.inl ⟨rfl, true, .none rfl, (fun gg b h => by cases h), fun h w => optUndef h, fun zβ za zw zc => ?_⟩, ?_⟩
          · exact wp_move rfl (zc.kn.ev rfl) ⟨_, rfl, Below.refl _ _, optDef zβ rfl⟩
          refine ⟨.inr ⟨0, rfl, by kernel_rfl, true, .none rfl, (fun gg b h => by cases h), (fun h => (nomatch h)), fun zβ za zw zvals zc => ?_⟩, ?_⟩
          · obtain rfl := vlen0 zc.len
            have zn := zc.now
            exact wp_call (by kernel_rfl) rfl (hv2 ((show za.eval (.tmp 30) = za.tmps.getD 30 undef from rfl).trans (optSVal (zc.dep 2 30 (by kernel_rfl) (by decide)) rfl rfl)) ((show za.eval (.tmp 31) = za.tmps.getD 31 undef from rfl).trans (optSVal (zc.dep 3 31 (by kernel_rfl) (by decide)) rfl rfl))) (ih (tget l x.1) (tget_mem (by omega)) gn gs (T.rnL (l.take x.1) (nmTo ns (-1 - f)).2).2 Ck (fun b => A b ∧ b < w.heap.size) _ _ zn.1 (hpk4.chg zc.chg hnA) (fun b q q2 => hnA b q (.inl q2)) (by omega) (by omega)) (fun v w' h => by obtain ⟨⟨C2, k1, k2, k3⟩, k4⟩ := h; exact ⟨v, rfl, k4.mono (fun b q => .inl q), ⟨C2, k1, fun b q => (k2 b q).imp id (fun q => Nat.le_trans zc.chg.size q), k3.mono (fun b q _ => ⟨Nat.le_trans zc.chg.size q.1, q.2⟩), zn.2.1.chg k4 (fun b q => (hk4 b q).2) (fun b q => q.1.2.1), chg_blk zn.2.2 k4 hn5⟩, cvNo⟩)
          refine ⟨.inr ⟨1, rfl, by kernel_rfl, true, .none rfl, (fun gg b h => by cases h), (fun h => (nomatch h)), fun zβ za zw zvals zc => ?_⟩, ?_⟩
          · obtain ⟨z0, rfl⟩ := vlen1 zc.len
            have zn := zc.now
            obtain ⟨C2, k1, k2, k3, k4, k5⟩ := zn
            have e0 : z0 = za.tmps.getD 32 undef := Option.some.inj (zc.val 0 4 32 rfl (by kernel_rfl))
            obtain ⟨_, fa, fc, ef, _⟩ := k3.form
            have k3b := k3
            rw [ef] at k3b
            exact row_22_1 rfl ((show za.eval (.tmp 32) = za.tmps.getD 32 undef from rfl).trans (e0.symm.trans ef)) ⟨_, rfl, .ofBelow (balloc _ _), ⟨C2, _, _, rfl, Blk.new' rfl, ⟨_, _, rfl, k3b.below (balloc _ _)⟩, k1.below (balloc _ _), k2, k4.below (balloc _ _), k5.below (balloc _ _)⟩, cvNo⟩
          refine ⟨.inr ⟨2, rfl, by kernel_rfl, true, .none rfl, (fun gg b h => by cases h), (fun h => (nomatch h)), fun zβ za zw zvals zc => ?_⟩, ?_⟩
          · obtain ⟨z0, z1, rfl⟩ := vlen2 zc.len
            have zn := zc.now
            obtain ⟨C2, g1, cs, e, k0, k3, k1, k2, k4, k5⟩ := zn
            have e1 : z1 = za.tmps.getD 33 undef := Option.some.inj (zc.val 1 5 33 rfl (by kernel_rfl))
            exact wp_appD (E := eltT) (S2 := (fun b => w81.heap.size ≤ b ∧ ¬ C2 b)) (size := 2) (bytes := 32) (z := .agg #[.int .i64 0, .slice none 0 0]) rfl Try.underlying22 (by kernel_rfl) rfl (by decide) rfl ((show za.eval (.tmp 29) = za.tmps.getD 29 undef from rfl).trans (optSVal (zc.dep 1 29 (by kernel_rfl) (by decide)) rfl rfl)) ((show za.eval (.tmp 33) = za.tmps.getD 33 undef from rfl).trans (e1.symm.trans e)) k4 k0 k3 (fun b q q2 => by have z := hkl b q2; (try dsimp only at q); omega) (by omega) (by omega) (fun ra rc w' h1 h2 h3 => ⟨_, rfl, h2.mono (fun b q => .inr (.inl q)), ⟨C2, ra, rc, _, rfl, k1.chg h2 (fun b q q2 => by rcases k2 b q with z | z; exact (hk4 b q2).2 z; (have z2 := hkl b q2; omega)), k2, h1, fun b q => q.1.imp (fun q => ⟨q.1.1, q.1.2.1, q.2⟩) id, fun b q => (h3 b q).imp id (fun q2 => ⟨Nat.le_trans zc.chg.size q2, fun q3 => by have z := k1.clt b q3; omega⟩), chg_blk k5 h2 ho5⟩, cvNo⟩)
          refine ⟨.inl ⟨rfl, true, .none rfl, (fun gg b h => by cases h), fun h w => optUndef h, fun zβ za zw zc => ?_⟩, ?_⟩
          · exact fld_24_1 rfl (zc.kn.ev rfl) ⟨_, rfl, Below.refl _ _, optDef zβ rfl⟩
          refine ⟨.inr ⟨3, rfl, by kernel_rfl, true, .none rfl, (fun gg b h => by cases h), (fun h => (nomatch h)), fun zβ za zw zvals zc => ?_⟩, ?_⟩
          · obtain ⟨z0, z1, z2, rfl⟩ := vlen3 zc.len
            have zn := zc.now
            obtain ⟨C2, ra2, rc2, Z, e, k1, k2, k3, k4, k5, k6⟩ := zn
            have e2 : z2 = za.tmps.getD 34 undef := Option.some.inj (zc.val 2 6 34 rfl (by kernel_rfl))
            have n5 : ¬ C2 g18 := fun q => by rcases k2 _ q with z | z; exact hn5 z; omega
            have nz : ¬ Z g18 := fun q => by rcases k4 _ q with z | z; (have z1 := z.1; (try dsimp only at z1); omega); omega
            have no : (Value.slice ra2 (x.1 + 1) rc2).ownBlock ≠ some g18 := fun q => by rcases k5 _ q with z | z; exact ho5 z; omega
            exact st_22 rfl ((show za.eval (.tmp 35) = za.tmps.getD 35 undef from rfl).trans (optSVal (zc.dep 7 35 (by kernel_rfl) (by decide)) rfl rfl)) ((show za.eval (.tmp 34) = za.tmps.getD 34 undef from rfl).trans (e2.symm.trans e)) k6 (by first | decide | simp) (fun v => ⟨v, rfl, .ofUpd (Upd.at_ _ _ _ _) (.inr (.inr rfl)), ⟨C2, ra2, rc2, Z, e, k1.chg (.ofUpd (S := fun b => b = g18) (Upd.at_ _ _ _ _) rfl) (fun b q e => n5 (by subst e; exact q)), k2, k3.chg (.ofUpd (S := fun b => b = g18) (Upd.at_ _ _ _ _) rfl) (fun b q e => no (by subst e; exact q)) (fun b q e => nz (by subst e; exact q)), k4, k5, k6.set_ 1 _⟩, cvNo⟩)
          exact trivial
        · intro za w100 zvals zh zl hG101 hc102 zu zw zk
          obtain ⟨z0, z1, z2, z3, rfl⟩ := vlen4 zl
          obtain ⟨C103, ra104, rc105, Z106, e107, k108, k109, k110, k111, k112, k113⟩ := hG101
          have hst114 : RnSt C (fun b => w.heap.size ≤ b ∧ b ≠ g2 ∧ b ≠ g9 ∧ b ≠ g18 ∧ b ≠ g72) gn gs (T.rn (tget l x.1) (T.rnL (l.take x.1) (nmTo ns (-1 - f)).2).2).2 ((T.rnL (l.take x.1) (nmTo ns (-1 - f)).2).1 ++ [(T.rn (tget l x.1) (T.rnL (l.take x.1) (nmTo ns (-1 - f)).2).2).1]) ra104 rc105 (x.1 + 1) w100 := RnSt.join hk2 hk4 hkl (fun b q => by (try dsimp only); omega) k108 k109 k110 k111 k112
          have hB115 := chg_blk hB87 hc102 (by assumption)
          have hB116 := chg_blk hB89 hc102 (by assumption)
          have hB117 := chg_blk hB83 hc102 (by assumption)
          have hcs118 : Chg (fun b => (C b ∧ b < w.heap.size) ∨ w.heap.size ≤ b) w81 w100 := hc102.mono (fun b q => by
            rcases q with q | q | q
            · rcases hk2 b q with z | z
              · exact .inl ⟨z, hClt b z⟩
              · exact .inr z.1
            · exact .inr (hk4 b q).1.1
            · exact .inr (by omega))
          clear zu zw zk
          refine (show WE _ [(0, .agg #[.int .i64 f, .slice pa0 l.length pc0]), (1, .func (.func 47) #[] #[.pointer (some ⟨gn, 0, none⟩), .pointer (some ⟨gs, 0, none⟩)]), (2, .pointer (some ⟨g2, 0, none⟩)), (4, .pointer (some ⟨g9, 0, none⟩)), (5, .pointer (some ⟨g18, 0, none⟩)), (7, .pointer (some ⟨g72, 0, none⟩)), (13, .bool ((decide ((f : Int) < (0 : Int))))), (22, .slice pa0 l.length pc0), (23, .int .i64 (((l.length : Nat) : Int))), (24, .int .i64 (((x.1 : Nat) : Int))), (25, .bool ((decide ((((x.1 : Nat) : Int) : Int) < (((l.length : Nat) : Int) : Int)))))] w100 _ .normal from ?_) za (zh.sub ⟨rfl, rfl, rfl, rfl, rfl, rfl, rfl, rfl, rfl, rfl, rfl, trivial⟩)
          refine WE.blockNormal ?_
          refine WE.next ?_
          refine WC.region ?_
          refine WL.val (.int .i64 ((((x.1 + 1) : Nat) : Int))) rfl rfl rfl (fun za zC zh zk => addb_3 rfl (zh.ev rfl) (zh.ev rfl) (wrap_eq (by omega) (by omega) (by omega)) zk) ?_
          refine WL.val (.int .i64 ((((x.1 + 1) : Nat) : Int))) rfl rfl rfl (fun za zC zh zk => wp_move rfl (zh.ev rfl) zk) ?_
          refine WL.nil (WE.sub (K' := [(0, .agg #[.int .i64 f, .slice pa0 l.length pc0]), (1, .func (.func 47) #[] #[.pointer (some ⟨gn, 0, none⟩), .pointer (some ⟨gs, 0, none⟩)]), (2, .pointer (some ⟨g2, 0, none⟩)), (4, .pointer (some ⟨g9, 0, none⟩)), (5, .pointer (some ⟨g18, 0, none⟩)), (7, .pointer (some ⟨g72, 0, none⟩)), (13, .bool ((decide ((f : Int) < (0 : Int))))), (22, .slice pa0 l.length pc0), (23, .int .i64 (((l.length : Nat) : Int))), (24, .int .i64 ((((x.1 + 1) : Nat) : Int))), (25, .bool ((decide ((((x.1 : Nat) : Int) : Int) < (((l.length : Nat) : Int) : Int)))))]) ⟨rfl, rfl, rfl, rfl, rfl, rfl, rfl, rfl, rfl, rfl, rfl, trivial⟩ ?_)
          refine WE.round ((x.1 + 1, ra104, rc105)) ⟨rfl, rfl, rfl, rfl, rfl, rfl, rfl, rfl, rfl, trivial⟩ ?_ ?_
          · have hs119 : Chg ((fun b => (C b ∧ b < w.heap.size) ∨ w.heap.size ≤ b)) w w100 := (Chg.trans2 (Chg.trans2 (Chg.trans2 (Chg.refl ((fun b => (C b ∧ b < w.heap.size) ∨ w.heap.size ≤ b)) _) hc68 (fun i h1 h2 => by first | exact h2 | exact .inl ⟨h2, h1⟩ | exact .inl h2 | exact .inr h2 | exact .inr (.inl h2) | exact .inr (.inr h2) | ((try dsimp only at *); omega))) (Chg.ofBelow (S := fun k => k < 0) hb85) (fun i h1 h2 => by first | exact h2 | exact .inl ⟨h2, h1⟩ | exact .inl h2 | exact .inr h2 | exact .inr (.inl h2) | exact .inr (.inr h2) | ((try dsimp only at *); omega))) hcs118 (fun i h1 h2 => by first | exact h2 | exact .inl ⟨h2, h1⟩ | exact .inl h2 | exact .inr h2 | exact .inr (.inl h2) | exact .inr (.inr h2) | ((try dsimp only at *); omega)))
            exact ⟨by (try dsimp only); omega, hB115, hB116, k113, (by dsimp only; rw [rnL_take (by omega)]; exact RnSt.mono hst114 (fun b q _ => by (try dsimp only at *); omega)), hs119⟩
          · (try dsimp only); omega
      · have h69 : ¬ ((((x.1 : Nat) : Int) : Int) < (((l.length : Nat) : Int) : Int)) := by simpa using h69
        refine WC.exit ?_
        refine WE.thenExit ?_
        refine WE.thenExit ?_
        refine WE.blockIs rfl ?_
        refine WE.next ?_
        refine WC.seq ?_
        refine WC.region ?_
        refine WL.val (.agg #[.int .i64 ((-1 - (((nmTo ns (-1 - f)).1 : Nat) : Int))), .slice x.2.1 x.1 x.2.2]) rfl rfl rfl (fun za zC zh zk => ld_24 rfl (zh.ev rfl) ((hB66.cell 0).trans rfl) ((hB66.cell 1).trans rfl) zk) ?_
        refine WL.step (post := fun _ w' => Upd g9 w62 w' ∧ Blk w' g9 24 #[.int .i64 ((-1 - (((nmTo ns (-1 - f)).1 : Nat) : Int))), .slice x.2.1 x.1 x.2.2]) rfl rfl rfl (fun za zC zh zk => st_24 rfl (zh.ev rfl) (zh.ev rfl) rfl rfl hB65 (by first | decide | simp) (fun v => zk v _ ⟨(Upd.at_ _ _ _ _).trans (Upd.at_ _ _ _ _), (hB65.set_ 0 _).set_ 1 _⟩)) ?_
        rintro v123 w120 ⟨hu121, hB122⟩
        have hB124 := upd_blk hB64 hu121 (by omega)
        have hB125 := upd_blk hB66 hu121 (by omega)
        refine WL.nil (WE.sub (K' := [(0, .agg #[.int .i64 f, .slice pa0 l.length pc0]), (1, .func (.func 47) #[] #[.pointer (some ⟨gn, 0, none⟩), .pointer (some ⟨gs, 0, none⟩)]), (2, .pointer (some ⟨g2, 0, none⟩)), (4, .pointer (some ⟨g9, 0, none⟩)), (5, .pointer (some ⟨g18, 0, none⟩)), (13, .bool ((decide ((f : Int) < (0 : Int))))), (22, .slice pa0 l.length pc0), (23, .int .i64 (((l.length : Nat) : Int))), (24, .int .i64 (((x.1 : Nat) : Int))), (25, .bool ((decide ((((x.1 : Nat) : Int) : Int) < (((l.length : Nat) : Int) : Int)))))]) ⟨rfl, rfl, rfl, rfl, rfl, rfl, rfl, rfl, rfl, rfl, trivial⟩ ?_)
        refine WE.next ?_
        refine WC.ret ?_
        refine WE.retAny (v := .agg #[.int .i64 ((-1 - (((nmTo ns (-1 - f)).1 : Nat) : Int))), .slice x.2.1 x.1 x.2.2]) (fun za zh => ?_) ?_
        · have z0 : za.tmps[4]?.getD undef = .pointer (some ⟨g9, 0, none⟩) := by rw [← Array.getD_eq_getD_getElem?]; exact zh.knows 4 _ rfl
          have y0 : w120.cell? ⟨g9, 0, none⟩ = some (.int .i64 ((-1 - (((nmTo ns (-1 - f)).1 : Nat) : Int)))) := ((hB122.cell 0).trans rfl)
          have y1 : w120.cell? ⟨g9, 1, none⟩ = some (.slice x.2.1 x.1 x.2.2) := ((hB122.cell 1).trans rfl)
          simp [results, Try.results48, z0, y0, y1, go_sem]
        · have hs126 : Chg ((fun b => b = g9)) w62 w120 := (Chg.trans2 (Chg.refl ((fun b => b = g9)) _) (Chg.ofUpd (S := fun k => k = g9) hu121 rfl) (fun i h1 h2 => by first | exact h2 | exact .inl ⟨h2, h1⟩ | exact .inl h2 | exact .inr h2 | exact .inr (.inl h2) | exact .inr (.inr h2) | ((try dsimp only at *); omega)))
          have hxk : x.1 = l.length := by omega
          have hcf := hs126
          obtain ⟨C9, m1, m2, m3, m4⟩ := RnSt.chg ho67 hcf (fun b q e => by have z := hClt b q; (try dsimp only at e); omega) (fun b q e => by (try dsimp only at q e); omega)
          have hs127 : Chg ((fun b => (C b ∧ b < w.heap.size) ∨ w.heap.size ≤ b)) w w120 := (Chg.trans2 (Chg.trans2 (Chg.refl ((fun b => (C b ∧ b < w.heap.size) ∨ w.heap.size ≤ b)) _) hc68 (fun i h1 h2 => by first | exact h2 | exact .inl ⟨h2, h1⟩ | exact .inl h2 | exact .inr h2 | exact .inr (.inl h2) | exact .inr (.inr h2) | ((try dsimp only at *); omega))) (Chg.ofUpd (S := fun k => k = g9) hu121 rfl) (fun i h1 h2 => by first | exact h2 | exact .inl ⟨h2, h1⟩ | exact .inl h2 | exact .inr h2 | exact .inr (.inl h2) | exact .inr (.inr h2) | ((try dsimp only at *); omega)))
          rw [List.take_of_length_le (by omega)] at m1 m3
          have hrn := rn_eq (f := f) (l := l) (ns := ns)
          rw [if_pos (by omega)] at hrn
          have hcw := hs127
          refine ⟨_, rfl, ⟨C9, by rw [hrn]; exact m1, fun b q => (m2 b q).imp id (fun q => q.1), by rw [hrn]; exact inT_row (by unfold I64; omega) m3 (fun b q => ⟨q.1.1, q.2.1⟩) (fun b q => ⟨(m4 b q).1.1, (m4 b q).2⟩)⟩, (Chg.refl C w).trans2 hcw (fun b hl q => q.elim (fun q => q.1) (fun q => by omega))⟩
  · have h37 : ¬ ((f : Int) < (0 : Int)) := by simpa using h37
    refine WC.skip ?_
    refine WE.next ?_
    refine WC.seq ?_
    refine WC.seq ?_
    refine WC.region ?_
    refine WL.val (.pointer (some ⟨g2, 1, none⟩)) rfl rfl rfl (fun za zC zh zk => fld_24_1 rfl (zh.ev rfl) zk) ?_
    refine WL.val (.slice pa0 l.length pc0) rfl rfl rfl (fun za zC zh zk => ld_22 rfl (zh.ev rfl) ((hB34.cell 1).trans rfl) zk) ?_
    refine WL.val (.int .i64 (((l.length : Nat) : Int))) rfl rfl rfl (fun za zC zh zk => len_22 rfl (zh.ev rfl) zk) ?_
    refine WL.val (.int .i64 0) rfl rfl rfl (fun za zC zh zk => wp_move rfl (zh.ev rfl) zk) ?_
    refine WL.nil (WE.sub (K' := [(0, .agg #[.int .i64 f, .slice pa0 l.length pc0]), (1, .func (.func 47) #[] #[.pointer (some ⟨gn, 0, none⟩), .pointer (some ⟨gs, 0, none⟩)]), (2, .pointer (some ⟨g2, 0, none⟩)), (4, .pointer (some ⟨g9, 0, none⟩)), (5, .pointer (some ⟨g18, 0, none⟩)), (13, .bool ((decide ((f : Int) < (0 : Int))))), (22, .slice pa0 l.length pc0), (23, .int .i64 (((l.length : Nat) : Int))), (24, .int .i64 0)]) ⟨rfl, rfl, rfl, rfl, rfl, rfl, rfl, rfl, rfl, trivial⟩ ?_)
    refine WE.next ?_
    refine WC.block ?_
    have hl128 : g2 < w27.heap.size := hB34.lt
    have hl129 : w.heap.size ≤ g2 := by have z : w.heap.size ≤ w.heap.size := (Nat.le_refl _); omega
    have hl130 : g9 < w27.heap.size := hB36.lt
    have hl131 : w.heap.size ≤ g9 := by have z : w.heap.size ≤ w1.heap.size := hb5.size; omega
    have hl132 : g18 < w27.heap.size := hB29.lt
    have hl133 : w.heap.size ≤ g18 := by have z : w.heap.size ≤ w8.heap.size := hb25.size; omega
    have hst0 : RnSt C (fun b => w.heap.size ≤ b ∧ b ≠ g2 ∧ b ≠ g9 ∧ b ≠ g18) gn gs ns [] none 0 0 w27 := RnSt.start (h.below hb32) (fun b q => .inl q)
    have hs134 : Chg ((fun b => (C b ∧ b < w.heap.size) ∨ w.heap.size ≤ b)) w w27 := (Chg.trans2 (Chg.refl ((fun b => (C b ∧ b < w.heap.size) ∨ w.heap.size ≤ b)) _) (Chg.ofBelow (S := fun k => k < 0) hb32) (fun i h1 h2 => by first | exact h2 | exact .inl ⟨h2, h1⟩ | exact .inl h2 | exact .inr h2 | exact .inr (.inl h2) | exact .inr (.inr h2) | ((try dsimp only at *); omega)))
    have hcS : Chg (fun b => (C b ∧ b < w.heap.size) ∨ w.heap.size ≤ b) w w27 := hs134
    refine WC.loop (X := Nat × Option Addr × Nat) (fun x => l.length - x.1) (fun x => [(0, .agg #[.int .i64 f, .slice pa0 l.length pc0]), (1, .func (.func 47) #[] #[.pointer (some ⟨gn, 0, none⟩), .pointer (some ⟨gs, 0, none⟩)]), (2, .pointer (some ⟨g2, 0, none⟩)), (4, .pointer (some ⟨g9, 0, none⟩)), (5, .pointer (some ⟨g18, 0, none⟩)), (13, .bool ((decide ((f : Int) < (0 : Int))))), (22, .slice pa0 l.length pc0), (23, .int .i64 (((l.length : Nat) : Int))), (24, .int .i64 (((x.1 : Nat) : Int)))]) (fun x w135 => x.1 ≤ l.length ∧ Blk w135 g2 24 #[.int .i64 f, .slice pa0 l.length pc0] ∧ Blk w135 g9 24 #[.int .i64 0, .slice none 0 0] ∧ Blk w135 g18 24 #[.int .i64 f, .slice x.2.1 x.1 x.2.2] ∧ RnSt C (fun b => w.heap.size ≤ b ∧ b ≠ g2 ∧ b ≠ g9 ∧ b ≠ g18) gn gs (T.rnL (l.take x.1) ns).2 (T.rnL (l.take x.1) ns).1 x.2.1 x.2.2 x.1 (w135) ∧ Chg ((fun b => (C b ∧ b < w.heap.size) ∨ w.heap.size ≤ b)) w w135) ((0, none, 0)) ⟨rfl, rfl, rfl, rfl, rfl, rfl, rfl, rfl, rfl, trivial⟩ ?_ ?_
    · have hs136 : Chg ((fun b => (C b ∧ b < w.heap.size) ∨ w.heap.size ≤ b)) w w27 := (Chg.trans2 (Chg.refl ((fun b => (C b ∧ b < w.heap.size) ∨ w.heap.size ≤ b)) _) (Chg.ofBelow (S := fun k => k < 0) hb32) (fun i h1 h2 => by first | exact h2 | exact .inl ⟨h2, h1⟩ | exact .inl h2 | exact .inr h2 | exact .inr (.inl h2) | exact .inr (.inr h2) | ((try dsimp only at *); omega)))
      exact ⟨Nat.zero_le _, hB34, hB36, hB29, (by simpa [T.rnL] using hst0), hs136⟩
    · rintro x w135 ⟨hk, hB137, hB138, hB139, ho140, hc141⟩
      refine WC.seq ?_
      refine WC.region ?_
      refine WL.val (.bool ((decide ((((x.1 : Nat) : Int) : Int) < (((l.length : Nat) : Int) : Int))))) rfl rfl rfl (fun za zC zh zk => lss_3 rfl (zh.ev rfl) (zh.ev rfl) zk) ?_
      refine WL.nil (WE.sub (K' := [(0, .agg #[.int .i64 f, .slice pa0 l.length pc0]), (1, .func (.func 47) #[] #[.pointer (some ⟨gn, 0, none⟩), .pointer (some ⟨gs, 0, none⟩)]), (2, .pointer (some ⟨g2, 0, none⟩)), (4, .pointer (some ⟨g9, 0, none⟩)), (5, .pointer (some ⟨g18, 0, none⟩)), (13, .bool ((decide ((f : Int) < (0 : Int))))), (22, .slice pa0 l.length pc0), (23, .int .i64 (((l.length : Nat) : Int))), (24, .int .i64 (((x.1 : Nat) : Int))), (25, .bool ((decide ((((x.1 : Nat) : Int) : Int) < (((l.length : Nat) : Int) : Int)))))]) ⟨rfl, rfl, rfl, rfl, rfl, rfl, rfl, rfl, rfl, rfl, trivial⟩ ?_)
      refine WE.next ?_
      refine WC.seq ?_
      refine WC.cond rfl (fun h142 => ?_) (fun h142 => ?_)
      · have h142 : (((x.1 : Nat) : Int) : Int) < (((l.length : Nat) : Int) : Int) := by simpa using h142
        refine WC.skip ?_
        refine WE.next ?_
        refine WC.seq ?_
        refine WC.block ?_
        refine WC.seq ?_
        have hs143 : Chg ((fun b => (C b ∧ b < w.heap.size) ∨ w.heap.size ≤ b)) w w135 := (Chg.trans2 (Chg.refl ((fun b => (C b ∧ b < w.heap.size) ∨ w.heap.size ≤ b)) _) hc141 (fun i h1 h2 => by first | exact h2 | exact .inl ⟨h2, h1⟩ | exact .inl h2 | exact .inr h2 | exact .inr (.inl h2) | exact .inr (.inr h2) | ((try dsimp only at *); omega)))
        obtain ⟨pb, po, hpa, hpk⟩ := InTp.arg (b := 0) (o := 0) (ht0.chg hs143 hA0) x.1 (by simp; omega)
        obtain ⟨pka, pkc, hpk1, hpk2, hpk3⟩ := InTp.at9 hpk
        simp only [T.args_mk] at hpk1 hpk2 hpk3
        have hpz := T.size_le_sizeL (tget_mem (l := l) (k := x.1) (by omega))
        have hst1 := sizeL_take1 (l := l) (k := x.1) (by omega)
        have hst2 := T.sizeL_take_le l (x.1 + 1)
        have hrl := T.rnL_len' (l.take x.1) ns
        refine WC.region ?_
        refine WL.val (.pointer (some ⟨pb, po + x.1 * 2, none⟩)) rfl rfl rfl (fun za zC zh zk => ix_22 (k := x.1) rfl (zh.ev rfl) hpa (zh.ev rfl) (by first | omega | (simp; omega)) zk) ?_
        refine WL.val (.agg #[.int .i64 ((tget l x.1).f), .slice pka ((tget l x.1).args.length) pkc]) rfl rfl rfl (fun za zC zh zk => ld_24 rfl (zh.ev rfl) hpk1 hpk2 zk) ?_
        refine WL.step (post := NewBlk w135 24 #[.int .i64 0, .slice none 0 0]) rfl rfl rfl (fun za zC zh zk => alloc_24 rfl (zk _ _ (newBlk _ _ _))) ?_
        rintro _ w144 ⟨g145, rfl, hg146, hB147, hb148, hz149⟩
        have hl150 : g2 < g145 := by have z1 := hB137.lt; omega
        have hl151 : g9 < g145 := by have z1 := hB138.lt; omega
        have hl152 : g18 < g145 := by have z1 := hB139.lt; omega
        have hl153 : w135.heap.size ≤ g145 := by omega
        refine WL.step (post := fun _ w' => Upd g145 w144 w' ∧ Blk w' g145 24 #[.int .i64 ((tget l x.1).f), .slice pka ((tget l x.1).args.length) pkc]) rfl rfl rfl (fun za zC zh zk => st_24 rfl (zh.ev rfl) (zh.ev rfl) rfl rfl hB147 (by first | decide | simp) (fun v => zk v _ ⟨(Upd.at_ _ _ _ _).trans (Upd.at_ _ _ _ _), (hB147.set_ 0 _).set_ 1 _⟩)) ?_
        rintro v157 w154 ⟨hu155, hB156⟩
        have hb158 := upd_below hb148 hu155 (by omega)
        have hB159 := hB137.below hb148
        have hB160 := upd_blk hB159 hu155 (by omega)
        have hB161 := hB138.below hb148
        have hB162 := upd_blk hB161 hu155 (by omega)
        have hB163 := hB139.below hb148
        have hB164 := upd_blk hB163 hu155 (by omega)
        refine WL.nil (WE.sub (K' := [(0, .agg #[.int .i64 f, .slice pa0 l.length pc0]), (1, .func (.func 47) #[] #[.pointer (some ⟨gn, 0, none⟩), .pointer (some ⟨gs, 0, none⟩)]), (2, .pointer (some ⟨g2, 0, none⟩)), (4, .pointer (some ⟨g9, 0, none⟩)), (5, .pointer (some ⟨g18, 0, none⟩)), (7, .pointer (some ⟨g145, 0, none⟩)), (13, .bool ((decide ((f : Int) < (0 : Int))))), (22, .slice pa0 l.length pc0), (23, .int .i64 (((l.length : Nat) : Int))), (24, .int .i64 (((x.1 : Nat) : Int))), (25, .bool ((decide ((((x.1 : Nat) : Int) : Int) < (((l.length : Nat) : Int) : Int)))))]) ⟨rfl, rfl, rfl, rfl, rfl, rfl, rfl, rfl, rfl, rfl, rfl, trivial⟩ ?_)
        refine WE.next ?_
        have hl165 : g2 < w154.heap.size := hB160.lt
        have hl166 : g9 < w154.heap.size := hB162.lt
        have hl167 : g18 < w154.heap.size := hB164.lt
        have hl168 : g145 < w154.heap.size := hB156.lt
        have hl169 : w135.heap.size ≤ g145 := by have z : w135.heap.size ≤ w135.heap.size := (Nat.le_refl _); omega
        have hw0 : w.heap.size ≤ w154.heap.size := (Nat.le_trans hc141.size hb158.size)
        obtain ⟨Ck, hk1, hk2, hk30, hk4⟩ := (RnSt.mono (N' := (fun b => w.heap.size ≤ b ∧ b ≠ g2 ∧ b ≠ g9 ∧ b ≠ g18 ∧ b ≠ g145)) ho140 (fun b q z => by (try dsimp only at *); omega)).below hb158
        have hkl : ∀ b, (Value.slice x.2.1 x.1 x.2.2).ownBlock = some b → b < w154.heap.size := hk30.lt
        have hk3 := hk30.mono (S' := fun b => ((fun b => w.heap.size ≤ b ∧ b ≠ g2 ∧ b ≠ g9 ∧ b ≠ g18 ∧ b ≠ g145) b ∧ ¬ Ck b ∧ (Value.slice x.2.1 x.1 x.2.2).ownBlock ≠ some b) ∧ b < w154.heap.size) (fun b q z => ⟨q, z⟩) (fun b q => q.1.2.2)
        have hnC : ∀ b, Ck b → b < w.heap.size ∨ (fun b => w.heap.size ≤ b ∧ b ≠ g2 ∧ b ≠ g9 ∧ b ≠ g18 ∧ b ≠ g145) b := fun b q => (hk2 b q).imp (hClt b) id
        have hnA : ∀ b, (A b ∧ b < w.heap.size) → ¬ (fun b => Ck b ∨ (Value.slice x.2.1 x.1 x.2.2).ownBlock = some b ∨ b = g18) b := fun b q q2 => by
          rcases q2 with q2 | q2 | q2
          · rcases hk2 b q2 with z | z
            · exact hA b q.1 z
            · (try dsimp only at z); omega
          · have z := (hk4 b q2).1; (try dsimp only at z); omega
          · omega
        have hns170 : ¬ (fun b => Ck b ∨ (Value.slice x.2.1 x.1 x.2.2).ownBlock = some b ∨ b = g18) g2 := fun q => by
          rcases q with q | q | q
          · rcases hnC _ q with z | z
            · omega
            · (try dsimp only at z); omega
          · have z := (hk4 _ q).1; (try dsimp only at z); omega
          · omega
        have hns171 : ¬ (fun b => Ck b ∨ (Value.slice x.2.1 x.1 x.2.2).ownBlock = some b ∨ b = g18) g9 := fun q => by
          rcases q with q | q | q
          · rcases hnC _ q with z | z
            · omega
            · (try dsimp only at z); omega
          · have z := (hk4 _ q).1; (try dsimp only at z); omega
          · omega
        have hns172 : ¬ (fun b => Ck b ∨ (Value.slice x.2.1 x.1 x.2.2).ownBlock = some b ∨ b = g18) g145 := fun q => by
          rcases q with q | q | q
          · rcases hnC _ q with z | z
            · omega
            · (try dsimp only at z); omega
          · have z := (hk4 _ q).1; (try dsimp only at z); omega
          · omega
        have hn5 : ¬ Ck g18 := fun q => by rcases hnC _ q with z | z; omega; (try dsimp only at z); omega
        have ho5 : (Value.slice x.2.1 x.1 x.2.2).ownBlock ≠ some g18 := fun q => by have z := (hk4 _ q).1; (try dsimp only at z); omega
        have hcap7 := hk3.inRow
        have hcap8 := hcap7.2.2
        unfold maxLen at hcap8
        have hpk4 := InT.below hb158 hpk3
        have hGV9 : ∀ (vals : List Value) (wa wb : World), Below wa.heap.size wa wb → (fun vals wz => match vals with | [] => NmAt wz gn gs (T.rnL (l.take x.1) ns).2 Ck ∧ RowD eltT (fun b => ((fun b => w.heap.size ≤ b ∧ b ≠ g2 ∧ b ≠ g9 ∧ b ≠ g18 ∧ b ≠ g145) b ∧ ¬ Ck b ∧ (Value.slice x.2.1 x.1 x.2.2).ownBlock ≠ some b) ∧ b < w154.heap.size) wz 24 x.2.1 x.2.2 x.1 (T.rnL (l.take x.1) ns).1 ∧ Blk wz g18 24 #[.int .i64 f, .slice x.2.1 x.1 x.2.2] | [z0] => ∃ C2, NmAt wz gn gs (T.rn (tget l x.1) (T.rnL (l.take x.1) ns).2).2 C2 ∧ (∀ b, C2 b → Ck b ∨ w154.heap.size ≤ b) ∧ InT (fun b => w154.heap.size ≤ b ∧ ¬ C2 b) wz (T.rn (tget l x.1) (T.rnL (l.take x.1) ns).2).1 z0 ∧ RowD eltT (fun b => ((fun b => w.heap.size ≤ b ∧ b ≠ g2 ∧ b ≠ g9 ∧ b ≠ g18 ∧ b ≠ g145) b ∧ ¬ Ck b ∧ (Value.slice x.2.1 x.1 x.2.2).ownBlock ≠ some b) ∧ b < w154.heap.size) wz 24 x.2.1 x.2.2 x.1 (T.rnL (l.take x.1) ns).1 ∧ Blk wz g18 24 #[.int .i64 f, .slice x.2.1 x.1 x.2.2] | [_, z1] => ∃ C2 g1 cs, z1 = .slice (some ⟨g1, 0, none⟩) 1 1 ∧ Blk wz g1 24 (List.toArray cs) ∧ eltT.In (fun b => w154.heap.size ≤ b ∧ ¬ C2 b) wz (T.rn (tget l x.1) (T.rnL (l.take x.1) ns).2).1 cs ∧ NmAt wz gn gs (T.rn (tget l x.1) (T.rnL (l.take x.1) ns).2).2 C2 ∧ (∀ b, C2 b → Ck b ∨ w154.heap.size ≤ b) ∧ RowD eltT (fun b => ((fun b => w.heap.size ≤ b ∧ b ≠ g2 ∧ b ≠ g9 ∧ b ≠ g18 ∧ b ≠ g145) b ∧ ¬ Ck b ∧ (Value.slice x.2.1 x.1 x.2.2).ownBlock ≠ some b) ∧ b < w154.heap.size) wz 24 x.2.1 x.2.2 x.1 (T.rnL (l.take x.1) ns).1 ∧ Blk wz g18 24 #[.int .i64 f, .slice x.2.1 x.1 x.2.2] | [_, _, z2] => ∃ C2 ra2 rc2 Z, z2 = .slice ra2 (x.1 + 1) rc2 ∧ NmAt wz gn gs (T.rn (tget l x.1) (T.rnL (l.take x.1) ns).2).2 C2 ∧ (∀ b, C2 b → Ck b ∨ w154.heap.size ≤ b) ∧ RowD eltT Z wz 24 ra2 rc2 (x.1 + 1) ((T.rnL (l.take x.1) ns).1 ++ [(T.rn (tget l x.1) (T.rnL (l.take x.1) ns).2).1]) ∧ (∀ b, Z b → ((fun b => w.heap.size ≤ b ∧ b ≠ g2 ∧ b ≠ g9 ∧ b ≠ g18 ∧ b ≠ g145) b ∧ ¬ Ck b ∧ b < w154.heap.size) ∨ (w154.heap.size ≤ b ∧ ¬ C2 b)) ∧ (∀ b, (Value.slice ra2 (x.1 + 1) rc2).ownBlock = some b → (Value.slice x.2.1 x.1 x.2.2).ownBlock = some b ∨ (w154.heap.size ≤ b ∧ ¬ C2 b)) ∧ Blk wz g18 24 #[.int .i64 f, .slice x.2.1 x.1 x.2.2] | [_, _, z2, _] => ∃ C2 ra2 rc2 Z, z2 = .slice ra2 (x.1 + 1) rc2 ∧ NmAt wz gn gs (T.rn (tget l x.1) (T.rnL (l.take x.1) ns).2).2 C2 ∧ (∀ b, C2 b → Ck b ∨ w154.heap.size ≤ b) ∧ RowD eltT Z wz 24 ra2 rc2 (x.1 + 1) ((T.rnL (l.take x.1) ns).1 ++ [(T.rn (tget l x.1) (T.rnL (l.take x.1) ns).2).1]) ∧ (∀ b, Z b → ((fun b => w.heap.size ≤ b ∧ b ≠ g2 ∧ b ≠ g9 ∧ b ≠ g18 ∧ b ≠ g145) b ∧ ¬ Ck b ∧ b < w154.heap.size) ∨ (w154.heap.size ≤ b ∧ ¬ C2 b)) ∧ (∀ b, (Value.slice ra2 (x.1 + 1) rc2).ownBlock = some b → (Value.slice x.2.1 x.1 x.2.2).ownBlock = some b ∨ (w154.heap.size ≤ b ∧ ¬ C2 b)) ∧ Blk wz g18 24 #[.int .i64 f, .slice ra2 (x.1 + 1) rc2] | _ => False) vals wa → (fun vals wz => match vals with | [] => NmAt wz gn gs (T.rnL (l.take x.1) ns).2 Ck ∧ RowD eltT (fun b => ((fun b => w.heap.size ≤ b ∧ b ≠ g2 ∧ b ≠ g9 ∧ b ≠ g18 ∧ b ≠ g145) b ∧ ¬ Ck b ∧ (Value.slice x.2.1 x.1 x.2.2).ownBlock ≠ some b) ∧ b < w154.heap.size) wz 24 x.2.1 x.2.2 x.1 (T.rnL (l.take x.1) ns).1 ∧ Blk wz g18 24 #[.int .i64 f, .slice x.2.1 x.1 x.2.2] | [z0] => ∃ C2, NmAt wz gn gs (T.rn (tget l x.1) (T.rnL (l.take x.1) ns).2).2 C2 ∧ (∀ b, C2 b → Ck b ∨ w154.heap.size ≤ b) ∧ InT (fun b => w154.heap.size ≤ b ∧ ¬ C2 b) wz (T.rn (tget l x.1) (T.rnL (l.take x.1) ns).2).1 z0 ∧ RowD eltT (fun b => ((fun b => w.heap.size ≤ b ∧ b ≠ g2 ∧ b ≠ g9 ∧ b ≠ g18 ∧ b ≠ g145) b ∧ ¬ Ck b ∧ (Value.slice x.2.1 x.1 x.2.2).ownBlock ≠ some b) ∧ b < w154.heap.size) wz 24 x.2.1 x.2.2 x.1 (T.rnL (l.take x.1) ns).1 ∧ Blk wz g18 24 #[.int .i64 f, .slice x.2.1 x.1 x.2.2] | [_, z1] => ∃ C2 g1 cs, z1 = .slice (some ⟨g1, 0, none⟩) 1 1 ∧ Blk wz g1 24 (List.toArray cs) ∧ eltT.In (fun b => w154.heap.size ≤ b ∧ ¬ C2 b) wz (T.rn (tget l x.1) (T.rnL (l.take x.1) ns).2).1 cs ∧ NmAt wz gn gs (T.rn (tget l x.1) (T.rnL (l.take x.1) ns).2).2 C2 ∧ (∀ b, C2 b → Ck b ∨ w154.heap.size ≤ b) ∧ RowD eltT (fun b => ((fun b => w.heap.size ≤ b ∧ b ≠ g2 ∧ b ≠ g9 ∧ b ≠ g18 ∧ b ≠ g145) b ∧ ¬ Ck b ∧ (Value.slice x.2.1 x.1 x.2.2).ownBlock ≠ some b) ∧ b < w154.heap.size) wz 24 x.2.1 x.2.2 x.1 (T.rnL (l.take x.1) ns).1 ∧ Blk wz g18 24 #[.int .i64 f, .slice x.2.1 x.1 x.2.2] | [_, _, z2] => ∃ C2 ra2 rc2 Z, z2 = .slice ra2 (x.1 + 1) rc2 ∧ NmAt wz gn gs (T.rn (tget l x.1) (T.rnL (l.take x.1) ns).2).2 C2 ∧ (∀ b, C2 b → Ck b ∨ w154.heap.size ≤ b) ∧ RowD eltT Z wz 24 ra2 rc2 (x.1 + 1) ((T.rnL (l.take x.1) ns).1 ++ [(T.rn (tget l x.1) (T.rnL (l.take x.1) ns).2).1]) ∧ (∀ b, Z b → ((fun b => w.heap.size ≤ b ∧ b ≠ g2 ∧ b ≠ g9 ∧ b ≠ g18 ∧ b ≠ g145) b ∧ ¬ Ck b ∧ b < w154.heap.size) ∨ (w154.heap.size ≤ b ∧ ¬ C2 b)) ∧ (∀ b, (Value.slice ra2 (x.1 + 1) rc2).ownBlock = some b → (Value.slice x.2.1 x.1 x.2.2).ownBlock = some b ∨ (w154.heap.size ≤ b ∧ ¬ C2 b)) ∧ Blk wz g18 24 #[.int .i64 f, .slice x.2.1 x.1 x.2.2] | [_, _, z2, _] => ∃ C2 ra2 rc2 Z, z2 = .slice ra2 (x.1 + 1) rc2 ∧ NmAt wz gn gs (T.rn (tget l x.1) (T.rnL (l.take x.1) ns).2).2 C2 ∧ (∀ b, C2 b → Ck b ∨ w154.heap.size ≤ b) ∧ RowD eltT Z wz 24 ra2 rc2 (x.1 + 1) ((T.rnL (l.take x.1) ns).1 ++ [(T.rn (tget l x.1) (T.rnL (l.take x.1) ns).2).1]) ∧ (∀ b, Z b → ((fun b => w.heap.size ≤ b ∧ b ≠ g2 ∧ b ≠ g9 ∧ b ≠ g18 ∧ b ≠ g145) b ∧ ¬ Ck b ∧ b < w154.heap.size) ∨ (w154.heap.size ≤ b ∧ ¬ C2 b)) ∧ (∀ b, (Value.slice ra2 (x.1 + 1) rc2).ownBlock = some b → (Value.slice x.2.1 x.1 x.2.2).ownBlock = some b ∨ (w154.heap.size ≤ b ∧ ¬ C2 b)) ∧ Blk wz g18 24 #[.int .i64 f, .slice ra2 (x.1 + 1) rc2] | _ => False) vals wb := by
          intro vals wa wb hb h
          match vals, h with
          | [], h => exact ⟨h.1.below hb, h.2.1.below hb, h.2.2.below hb⟩
          | [z0], h =>
            obtain ⟨C2, k1, k2, k3, k4, k5⟩ := h
            exact ⟨C2, k1.below hb, k2, k3.below hb, k4.below hb, k5.below hb⟩
          | [_, z1], h =>
            obtain ⟨C2, g1, cs, e, k0, k3, k1, k2, k4, k5⟩ := h
            exact ⟨C2, g1, cs, e, k0.below hb, Elt.below (E := eltT) k3 hb, k1.below hb, k2, k4.below hb, k5.below hb⟩
          | [_, _, z2], h =>
            obtain ⟨C2, ra2, rc2, Z, e, k1, k2, k3, k4, k5, k6⟩ := h
            exact ⟨C2, ra2, rc2, Z, e, k1.below hb, k2, k3.below hb, k4, k5, k6.below hb⟩
          | [_, _, z2, _], h =>
            obtain ⟨C2, ra2, rc2, Z, e, k1, k2, k3, k4, k5, k6⟩ := h
            exact ⟨C2, ra2, rc2, Z, e, k1.below hb, k2, k3.below hb, k4, k5, k6.below hb⟩
        refine WC.seqV (S := ((fun b => Ck b ∨ (Value.slice x.2.1 x.1 x.2.2).ownBlock = some b ∨ b = g18))) [(true, .val (.pointer (some ⟨g18, 1, none⟩))), (true, .val (.slice x.2.1 x.1 x.2.2)), (true, .val (.agg #[.int .i64 ((tget l x.1).f), .slice pka ((tget l x.1).args.length) pkc])), (true, .val (.func (.func 47) #[] #[.pointer (some ⟨gn, 0, none⟩), .pointer (some ⟨gs, 0, none⟩)])), (true, .val undef), (true, .val undef), (true, .val undef), (true, .val (.pointer (some ⟨g18, 1, none⟩))), (true, .val undef)] [(0, .agg #[.int .i64 f, .slice pa0 l.length pc0]), (1, .func (.func 47) #[] #[.pointer (some ⟨gn, 0, none⟩), .pointer (some ⟨gs, 0, none⟩)]), (2, .pointer (some ⟨g2, 0, none⟩)), (4, .pointer (some ⟨g9, 0, none⟩)), (5, .pointer (some ⟨g18, 0, none⟩)), (7, .pointer (some ⟨g145, 0, none⟩)), (13, .bool ((decide ((f : Int) < (0 : Int))))), (22, .slice pa0 l.length pc0), (23, .int .i64 (((l.length : Nat) : Int))), (24, .int .i64 (((x.1 : Nat) : Int))), (25, .bool ((decide ((((x.1 : Nat) : Int) : Int) < (((l.length : Nat) : Int) : Int)))))] [4, 5, 6, 8] [none, none, none, none] (fun vals wz => match vals with | [] => NmAt wz gn gs (T.rnL (l.take x.1) ns).2 Ck ∧ RowD eltT (fun b => ((fun b => w.heap.size ≤ b ∧ b ≠ g2 ∧ b ≠ g9 ∧ b ≠ g18 ∧ b ≠ g145) b ∧ ¬ Ck b ∧ (Value.slice x.2.1 x.1 x.2.2).ownBlock ≠ some b) ∧ b < w154.heap.size) wz 24 x.2.1 x.2.2 x.1 (T.rnL (l.take x.1) ns).1 ∧ Blk wz g18 24 #[.int .i64 f, .slice x.2.1 x.1 x.2.2] | [z0] => ∃ C2, NmAt wz gn gs (T.rn (tget l x.1) (T.rnL (l.take x.1) ns).2).2 C2 ∧ (∀ b, C2 b → Ck b ∨ w154.heap.size ≤ b) ∧ InT (fun b => w154.heap.size ≤ b ∧ ¬ C2 b) wz (T.rn (tget l x.1) (T.rnL (l.take x.1) ns).2).1 z0 ∧ RowD eltT (fun b => ((fun b => w.heap.size ≤ b ∧ b ≠ g2 ∧ b ≠ g9 ∧ b ≠ g18 ∧ b ≠ g145) b ∧ ¬ Ck b ∧ (Value.slice x.2.1 x.1 x.2.2).ownBlock ≠ some b) ∧ b < w154.heap.size) wz 24 x.2.1 x.2.2 x.1 (T.rnL (l.take x.1) ns).1 ∧ Blk wz g18 24 #[.int .i64 f, .slice x.2.1 x.1 x.2.2] | [_, z1] => ∃ C2 g1 cs, z1 = .slice (some ⟨g1, 0, none⟩) 1 1 ∧ Blk wz g1 24 (List.toArray cs) ∧ eltT.In (fun b => w154.heap.size ≤ b ∧ ¬ C2 b) wz (T.rn (tget l x.1) (T.rnL (l.take x.1) ns).2).1 cs ∧ NmAt wz gn gs (T.rn (tget l x.1) (T.rnL (l.take x.1) ns).2).2 C2 ∧ (∀ b, C2 b → Ck b ∨ w154.heap.size ≤ b) ∧ RowD eltT (fun b => ((fun b => w.heap.size ≤ b ∧ b ≠ g2 ∧ b ≠ g9 ∧ b ≠ g18 ∧ b ≠ g145) b ∧ ¬ Ck b ∧ (Value.slice x.2.1 x.1 x.2.2).ownBlock ≠ some b) ∧ b < w154.heap.size) wz 24 x.2.1 x.2.2 x.1 (T.rnL (l.take x.1) ns).1 ∧ Blk wz g18 24 #[.int .i64 f, .slice x.2.1 x.1 x.2.2] | [_, _, z2] => ∃ C2 ra2 rc2 Z, z2 = .slice ra2 (x.1 + 1) rc2 ∧ NmAt wz gn gs (T.rn (tget l x.1) (T.rnL (l.take x.1) ns).2).2 C2 ∧ (∀ b, C2 b → Ck b ∨ w154.heap.size ≤ b) ∧ RowD eltT Z wz 24 ra2 rc2 (x.1 + 1) ((T.rnL (l.take x.1) ns).1 ++ [(T.rn (tget l x.1) (T.rnL (l.take x.1) ns).2).1]) ∧ (∀ b, Z b → ((fun b => w.heap.size ≤ b ∧ b ≠ g2 ∧ b ≠ g9 ∧ b ≠ g18 ∧ b ≠ g145) b ∧ ¬ Ck b ∧ b < w154.heap.size) ∨ (w154.heap.size ≤ b ∧ ¬ C2 b)) ∧ (∀ b, (Value.slice ra2 (x.1 + 1) rc2).ownBlock = some b → (Value.slice x.2.1 x.1 x.2.2).ownBlock = some b ∨ (w154.heap.size ≤ b ∧ ¬ C2 b)) ∧ Blk wz g18 24 #[.int .i64 f, .slice x.2.1 x.1 x.2.2] | [_, _, z2, _] => ∃ C2 ra2 rc2 Z, z2 = .slice ra2 (x.1 + 1) rc2 ∧ NmAt wz gn gs (T.rn (tget l x.1) (T.rnL (l.take x.1) ns).2).2 C2 ∧ (∀ b, C2 b → Ck b ∨ w154.heap.size ≤ b) ∧ RowD eltT Z wz 24 ra2 rc2 (x.1 + 1) ((T.rnL (l.take x.1) ns).1 ++ [(T.rn (tget l x.1) (T.rnL (l.take x.1) ns).2).1]) ∧ (∀ b, Z b → ((fun b => w.heap.size ≤ b ∧ b ≠ g2 ∧ b ≠ g9 ∧ b ≠ g18 ∧ b ≠ g145) b ∧ ¬ Ck b ∧ b < w154.heap.size) ∨ (w154.heap.size ≤ b ∧ ¬ C2 b)) ∧ (∀ b, (Value.slice ra2 (x.1 + 1) rc2).ownBlock = some b → (Value.slice x.2.1 x.1 x.2.2).ownBlock = some b ∨ (w154.heap.size ≤ b ∧ ¬ C2 b)) ∧ Blk wz g18 24 #[.int .i64 f, .slice ra2 (x.1 + 1) rc2] | _ => False) hGV9 (by decide) ⟨rfl, rfl, rfl, rfl, rfl, rfl, rfl, rfl, rfl, rfl, rfl, trivial⟩ (by kernel_rfl) (by kernel_rfl) (by kernel_rfl) (by kernel_rfl) (⟨hk1, hk3, hB164⟩) ?_ ?_
        · refine ⟨.inl ⟨rfl, true, .none rfl, (fun gg b h => by cases h), fun h w => optUndef h, fun zβ za zw zc => ?_⟩, ?_⟩
          · exact fld_24_1 rfl (zc.kn.ev rfl) ⟨_, rfl, Below.refl _ _, optDef zβ rfl⟩
          refine ⟨.inl ⟨rfl, true, .none rfl, (fun gg b h => by cases h), fun h w => optUndef h, fun zβ za zw zc => ?_⟩, ?_⟩
          · obtain ⟨vals, hle, hgv, _⟩ := zc.early 2 6 rfl (by kernel_rfl)
            have hb5 : Blk zw g18 24 #[.int .i64 f, .slice x.2.1 x.1 x.2.2] := by
              match vals, hle, hgv with
              | [], _, hg => exact hg.2.2
              | [z0], _, hg => obtain ⟨C2, k1, k2, k3, k4, k5⟩ := hg; exact k5
              | [_, z1], _, hg => obtain ⟨C2, g1, cs, e, k0, k3, k1, k2, k4, k5⟩ := hg; exact k5
            exact ld_22 rfl ((show za.eval (.tmp 28) = za.tmps.getD 28 undef from rfl).trans (optSVal (zc.dep 0 28 (by kernel_rfl) (by decide)) rfl rfl)) ((hb5.cell 1).trans rfl) ⟨_, rfl, Below.refl _ _, optDef zβ rfl⟩
          refine ⟨.inl ⟨rfl, true, .none rfl, (fun gg b h => by cases h), fun h w => optUndef h, fun zβ za zw zc => ?_⟩, ?_⟩
          · exact ld_24 rfl (zc.kn.ev rfl) (chg_cell zc.chg (by first | assumption | ((try dsimp only at *); omega)) ((hB156.cell 0).trans rfl)) (chg_cell zc.chg (by first | assumption | ((try dsimp only at *); omega)) ((hB156.cell 1).trans rfl)) ⟨_, rfl, Below.refl _ _, optDef zβ rfl⟩
          refine ⟨.inl ⟨rfl, true, .none rfl, (fun gg b h => by cases h), fun h w => optUndef h, fun zβ za zw zc => ?_⟩, ?_⟩
          · exact wp_move rfl (zc.kn.ev rfl) ⟨_, rfl, Below.refl _ _, optDef zβ rfl⟩
          refine ⟨.inr ⟨0, rfl, by kernel_rfl, true, .none rfl, (fun gg b h => by cases h), (fun h => (nomatch h)), fun zβ za zw zvals zc => ?_⟩, ?_⟩
          · obtain rfl := vlen0 zc.len
            have zn := zc.now
            exact wp_call (by kernel_rfl) rfl (hv2 ((show za.eval (.tmp 30) = za.tmps.getD 30 undef from rfl).trans (optSVal (zc.dep 2 30 (by kernel_rfl) (by decide)) rfl rfl)) ((show za.eval (.tmp 31) = za.tmps.getD 31 undef from rfl).trans (optSVal (zc.dep 3 31 (by kernel_rfl) (by decide)) rfl rfl))) (ih (tget l x.1) (tget_mem (by omega)) gn gs (T.rnL (l.take x.1) ns).2 Ck (fun b => A b ∧ b < w.heap.size) _ _ zn.1 (hpk4.chg zc.chg hnA) (fun b q q2 => hnA b q (.inl q2)) (by omega) (by omega)) (fun v w' h => by obtain ⟨⟨C2, k1, k2, k3⟩, k4⟩ := h; exact ⟨v, rfl, k4.mono (fun b q => .inl q), ⟨C2, k1, fun b q => (k2 b q).imp id (fun q => Nat.le_trans zc.chg.size q), k3.mono (fun b q _ => ⟨Nat.le_trans zc.chg.size q.1, q.2⟩), zn.2.1.chg k4 (fun b q => (hk4 b q).2) (fun b q => q.1.2.1), chg_blk zn.2.2 k4 hn5⟩, cvNo⟩)
          refine ⟨.inr ⟨1, rfl, by kernel_rfl, true, .none rfl, (fun gg b h => by cases h), (fun h => (nomatch h)), fun zβ za zw zvals zc => ?_⟩, ?_⟩
          · obtain ⟨z0, rfl⟩ := vlen1 zc.len
            have zn := zc.now
            obtain ⟨C2, k1, k2, k3, k4, k5⟩ := zn
            have e0 : z0 = za.tmps.getD 32 undef := Option.some.inj (zc.val 0 4 32 rfl (by kernel_rfl))
            obtain ⟨_, fa, fc, ef, _⟩ := k3.form
            have k3b := k3
            rw [ef] at k3b
            exact row_22_1 rfl ((show za.eval (.tmp 32) = za.tmps.getD 32 undef from rfl).trans (e0.symm.trans ef)) ⟨_, rfl, .ofBelow (balloc _ _), ⟨C2, _, _, rfl, Blk.new' rfl, ⟨_, _, rfl, k3b.below (balloc _ _)⟩, k1.below (balloc _ _), k2, k4.below (balloc _ _), k5.below (balloc _ _)⟩, cvNo⟩
          refine ⟨.inr ⟨2, rfl, by kernel_rfl, true, .none rfl, (fun gg b h => by cases h), (fun h => (nomatch h)), fun zβ za zw zvals zc => ?_⟩, ?_⟩
          · obtain ⟨z0, z1, rfl⟩ := vlen2 zc.len
            have zn := zc.now
            obtain ⟨C2, g1, cs, e, k0, k3, k1, k2, k4, k5⟩ := zn
            have e1 : z1 = za.tmps.getD 33 undef := Option.some.inj (zc.val 1 5 33 rfl (by kernel_rfl))
            exact wp_appD (E := eltT) (S2 := (fun b => w154.heap.size ≤ b ∧ ¬ C2 b)) (size := 2) (bytes := 32) (z := .agg #[.int .i64 0, .slice none 0 0]) rfl Try.underlying22 (by kernel_rfl) rfl (by decide) rfl ((show za.eval (.tmp 29) = za.tmps.getD 29 undef from rfl).trans (optSVal (zc.dep 1 29 (by kernel_rfl) (by decide)) rfl rfl)) ((show za.eval (.tmp 33) = za.tmps.getD 33 undef from rfl).trans (e1.symm.trans e)) k4 k0 k3 (fun b q q2 => by have z := hkl b q2; (try dsimp only at q); omega) (by omega) (by omega) (fun ra rc w' h1 h2 h3 => ⟨_, rfl, h2.mono (fun b q => .inr (.inl q)), ⟨C2, ra, rc, _, rfl, k1.chg h2 (fun b q q2 => by rcases k2 b q with z | z; exact (hk4 b q2).2 z; (have z2 := hkl b q2; omega)), k2, h1, fun b q => q.1.imp (fun q => ⟨q.1.1, q.1.2.1, q.2⟩) id, fun b q => (h3 b q).imp id (fun q2 => ⟨Nat.le_trans zc.chg.size q2, fun q3 => by have z := k1.clt b q3; omega⟩), chg_blk k5 h2 ho5⟩, cvNo⟩)
          refine ⟨.inl ⟨rfl, true, .none rfl, (fun gg b h => by cases h), fun h w => optUndef h, fun zβ za zw zc => ?_⟩, ?_⟩
          · exact fld_24_1 rfl (zc.kn.ev rfl) ⟨_, rfl, Below.refl _ _, optDef zβ rfl⟩
          refine ⟨.inr ⟨3, rfl, by kernel_rfl, true, .none rfl, (fun gg b h => by cases h), (fun h => (nomatch h)), fun zβ za zw zvals zc => ?_⟩, ?_⟩
          · obtain ⟨z0, z1, z2, rfl⟩ := vlen3 zc.len
            have zn := zc.now
            obtain ⟨C2, ra2, rc2, Z, e, k1, k2, k3, k4, k5, k6⟩ := zn
            have e2 : z2 = za.tmps.getD 34 undef := Option.some.inj (zc.val 2 6 34 rfl (by kernel_rfl))
            have n5 : ¬ C2 g18 := fun q => by rcases k2 _ q with z | z; exact hn5 z; omega
            have nz : ¬ Z g18 := fun q => by rcases k4 _ q with z | z; (have z1 := z.1; (try dsimp only at z1); omega); omega
            have no : (Value.slice ra2 (x.1 + 1) rc2).ownBlock ≠ some g18 := fun q => by rcases k5 _ q with z | z; exact ho5 z; omega
            exact st_22 rfl ((show za.eval (.tmp 35) = za.tmps.getD 35 undef from rfl).trans (optSVal (zc.dep 7 35 (by kernel_rfl) (by decide)) rfl rfl)) ((show za.eval (.tmp 34) = za.tmps.getD 34 undef from rfl).trans (e2.symm.trans e)) k6 (by first | decide | simp) (fun v => ⟨v, rfl, .ofUpd (Upd.at_ _ _ _ _) (.inr (.inr rfl)), ⟨C2, ra2, rc2, Z, e, k1.chg (.ofUpd (S := fun b => b = g18) (Upd.at_ _ _ _ _) rfl) (fun b q e => n5 (by subst e; exact q)), k2, k3.chg (.ofUpd (S := fun b => b = g18) (Upd.at_ _ _ _ _) rfl) (fun b q e => no (by subst e; exact q)) (fun b q e => nz (by subst e; exact q)), k4, k5, k6.set_ 1 _⟩, cvNo⟩)
          exact trivial
        · intro za w173 zvals zh zl hG174 hc175 zu zw zk
          obtain ⟨z0, z1, z2, z3, rfl⟩ := vlen4 zl
          obtain ⟨C176, ra177, rc178, Z179, e180, k181, k182, k183, k184, k185, k186⟩ := hG174
          have hst187 : RnSt C (fun b => w.heap.size ≤ b ∧ b ≠ g2 ∧ b ≠ g9 ∧ b ≠ g18 ∧ b ≠ g145) gn gs (T.rn (tget l x.1) (T.rnL (l.take x.1) ns).2).2 ((T.rnL (l.take x.1) ns).1 ++ [(T.rn (tget l x.1) (T.rnL (l.take x.1) ns).2).1]) ra177 rc178 (x.1 + 1) w173 := RnSt.join hk2 hk4 hkl (fun b q => by (try dsimp only); omega) k181 k182 k183 k184 k185
          have hB188 := chg_blk hB160 hc175 (by assumption)
          have hB189 := chg_blk hB162 hc175 (by assumption)
          have hB190 := chg_blk hB156 hc175 (by assumption)
          have hcs191 : Chg (fun b => (C b ∧ b < w.heap.size) ∨ w.heap.size ≤ b) w154 w173 := hc175.mono (fun b q => by
            rcases q with q | q | q
            · rcases hk2 b q with z | z
              · exact .inl ⟨z, hClt b z⟩
              · exact .inr z.1
            · exact .inr (hk4 b q).1.1
            · exact .inr (by omega))
          clear zu zw zk
          refine (show WE _ [(0, .agg #[.int .i64 f, .slice pa0 l.length pc0]), (1, .func (.func 47) #[] #[.pointer (some ⟨gn, 0, none⟩), .pointer (some ⟨gs, 0, none⟩)]), (2, .pointer (some ⟨g2, 0, none⟩)), (4, .pointer (some ⟨g9, 0, none⟩)), (5, .pointer (some ⟨g18, 0, none⟩)), (7, .pointer (some ⟨g145, 0, none⟩)), (13, .bool ((decide ((f : Int) < (0 : Int))))), (22, .slice pa0 l.length pc0), (23, .int .i64 (((l.length : Nat) : Int))), (24, .int .i64 (((x.1 : Nat) : Int))), (25, .bool ((decide ((((x.1 : Nat) : Int) : Int) < (((l.length : Nat) : Int) : Int)))))] w173 _ .normal from ?_) za (zh.sub ⟨rfl, rfl, rfl, rfl, rfl, rfl, rfl, rfl, rfl, rfl, rfl, trivial⟩)
          refine WE.blockNormal ?_
          refine WE.next ?_
          refine WC.region ?_
          refine WL.val (.int .i64 ((((x.1 + 1) : Nat) : Int))) rfl rfl rfl (fun za zC zh zk => addb_3 rfl (zh.ev rfl) (zh.ev rfl) (wrap_eq (by omega) (by omega) (by omega)) zk) ?_
          refine WL.val (.int .i64 ((((x.1 + 1) : Nat) : Int))) rfl rfl rfl (fun za zC zh zk => wp_move rfl (zh.ev rfl) zk) ?_
          refine WL.nil (WE.sub (K' := [(0, .agg #[.int .i64 f, .slice pa0 l.length pc0]), (1, .func (.func 47) #[] #[.pointer (some ⟨gn, 0, none⟩), .pointer (some ⟨gs, 0, none⟩)]), (2, .pointer (some ⟨g2, 0, none⟩)), (4, .pointer (some ⟨g9, 0, none⟩)), (5, .pointer (some ⟨g18, 0, none⟩)), (7, .pointer (some ⟨g145, 0, none⟩)), (13, .bool ((decide ((f : Int) < (0 : Int))))), (22, .slice pa0 l.length pc0), (23, .int .i64 (((l.length : Nat) : Int))), (24, .int .i64 ((((x.1 + 1) : Nat) : Int))), (25, .bool ((decide ((((x.1 : Nat) : Int) : Int) < (((l.length : Nat) : Int) : Int)))))]) ⟨rfl, rfl, rfl, rfl, rfl, rfl, rfl, rfl, rfl, rfl, rfl, trivial⟩ ?_)
          refine WE.round ((x.1 + 1, ra177, rc178)) ⟨rfl, rfl, rfl, rfl, rfl, rfl, rfl, rfl, rfl, trivial⟩ ?_ ?_
          · have hs192 : Chg ((fun b => (C b ∧ b < w.heap.size) ∨ w.heap.size ≤ b)) w w173 := (Chg.trans2 (Chg.trans2 (Chg.trans2 (Chg.refl ((fun b => (C b ∧ b < w.heap.size) ∨ w.heap.size ≤ b)) _) hc141 (fun i h1 h2 => by first | exact h2 | exact .inl ⟨h2, h1⟩ | exact .inl h2 | exact .inr h2 | exact .inr (.inl h2) | exact .inr (.inr h2) | ((try dsimp only at *); omega))) (Chg.ofBelow (S := fun k => k < 0) hb158) (fun i h1 h2 => by first | exact h2 | exact .inl ⟨h2, h1⟩ | exact .inl h2 | exact .inr h2 | exact .inr (.inl h2) | exact .inr (.inr h2) | ((try dsimp only at *); omega))) hcs191 (fun i h1 h2 => by first | exact h2 | exact .inl ⟨h2, h1⟩ | exact .inl h2 | exact .inr h2 | exact .inr (.inl h2) | exact .inr (.inr h2) | ((try dsimp only at *); omega)))
            exact ⟨by (try dsimp only); omega, hB188, hB189, k186, (by dsimp only; rw [rnL_take (by omega)]; exact RnSt.mono hst187 (fun b q _ => by (try dsimp only at *); omega)), hs192⟩
          · (try dsimp only); omega
      · have h142 : ¬ ((((x.1 : Nat) : Int) : Int) < (((l.length : Nat) : Int) : Int)) := by simpa using h142
        refine WC.exit ?_
        refine WE.thenExit ?_
        refine WE.thenExit ?_
        refine WE.blockIs rfl ?_
        refine WE.next ?_
        refine WC.seq ?_
        refine WC.region ?_
        refine WL.val (.agg #[.int .i64 f, .slice x.2.1 x.1 x.2.2]) rfl rfl rfl (fun za zC zh zk => ld_24 rfl (zh.ev rfl) ((hB139.cell 0).trans rfl) ((hB139.cell 1).trans rfl) zk) ?_
        refine WL.step (post := fun _ w' => Upd g9 w135 w' ∧ Blk w' g9 24 #[.int .i64 f, .slice x.2.1 x.1 x.2.2]) rfl rfl rfl (fun za zC zh zk => st_24 rfl (zh.ev rfl) (zh.ev rfl) rfl rfl hB138 (by first | decide | simp) (fun v => zk v _ ⟨(Upd.at_ _ _ _ _).trans (Upd.at_ _ _ _ _), (hB138.set_ 0 _).set_ 1 _⟩)) ?_
        rintro v196 w193 ⟨hu194, hB195⟩
        have hB197 := upd_blk hB137 hu194 (by omega)
        have hB198 := upd_blk hB139 hu194 (by omega)
        refine WL.nil (WE.sub (K' := [(0, .agg #[.int .i64 f, .slice pa0 l.length pc0]), (1, .func (.func 47) #[] #[.pointer (some ⟨gn, 0, none⟩), .pointer (some ⟨gs, 0, none⟩)]), (2, .pointer (some ⟨g2, 0, none⟩)), (4, .pointer (some ⟨g9, 0, none⟩)), (5, .pointer (some ⟨g18, 0, none⟩)), (13, .bool ((decide ((f : Int) < (0 : Int))))), (22, .slice pa0 l.length pc0), (23, .int .i64 (((l.length : Nat) : Int))), (24, .int .i64 (((x.1 : Nat) : Int))), (25, .bool ((decide ((((x.1 : Nat) : Int) : Int) < (((l.length : Nat) : Int) : Int)))))]) ⟨rfl, rfl, rfl, rfl, rfl, rfl, rfl, rfl, rfl, rfl, trivial⟩ ?_)
        refine WE.next ?_
        refine WC.ret ?_
        refine WE.retAny (v := .agg #[.int .i64 f, .slice x.2.1 x.1 x.2.2]) (fun za zh => ?_) ?_
        · have z0 : za.tmps[4]?.getD undef = .pointer (some ⟨g9, 0, none⟩) := by rw [← Array.getD_eq_getD_getElem?]; exact zh.knows 4 _ rfl
          have y0 : w193.cell? ⟨g9, 0, none⟩ = some (.int .i64 f) := ((hB195.cell 0).trans rfl)
          have y1 : w193.cell? ⟨g9, 1, none⟩ = some (.slice x.2.1 x.1 x.2.2) := ((hB195.cell 1).trans rfl)
          simp [results, Try.results48, z0, y0, y1, go_sem]
        · have hs199 : Chg ((fun b => b = g9)) w135 w193 := (Chg.trans2 (Chg.refl ((fun b => b = g9)) _) (Chg.ofUpd (S := fun k => k = g9) hu194 rfl) (fun i h1 h2 => by first | exact h2 | exact .inl ⟨h2, h1⟩ | exact .inl h2 | exact .inr h2 | exact .inr (.inl h2) | exact .inr (.inr h2) | ((try dsimp only at *); omega)))
          have hxk : x.1 = l.length := by omega
          have hcf := hs199
          obtain ⟨C9, m1, m2, m3, m4⟩ := RnSt.chg ho140 hcf (fun b q e => by have z := hClt b q; (try dsimp only at e); omega) (fun b q e => by (try dsimp only at q e); omega)
          have hs200 : Chg ((fun b => (C b ∧ b < w.heap.size) ∨ w.heap.size ≤ b)) w w193 := (Chg.trans2 (Chg.trans2 (Chg.refl ((fun b => (C b ∧ b < w.heap.size) ∨ w.heap.size ≤ b)) _) hc141 (fun i h1 h2 => by first | exact h2 | exact .inl ⟨h2, h1⟩ | exact .inl h2 | exact .inr h2 | exact .inr (.inl h2) | exact .inr (.inr h2) | ((try dsimp only at *); omega))) (Chg.ofUpd (S := fun k => k = g9) hu194 rfl) (fun i h1 h2 => by first | exact h2 | exact .inl ⟨h2, h1⟩ | exact .inl h2 | exact .inr h2 | exact .inr (.inl h2) | exact .inr (.inr h2) | ((try dsimp only at *); omega)))
          rw [List.take_of_length_le (by omega)] at m1 m3
          have hrn := rn_eq (f := f) (l := l) (ns := ns)
          rw [if_neg (by omega)] at hrn
          have hcw := hs200
          refine ⟨_, rfl, ⟨C9, by rw [hrn]; exact m1, fun b q => (m2 b q).imp id (fun q => q.1), by rw [hrn]; exact inT_row hf m3 (fun b q => ⟨q.1.1, q.2.1⟩) (fun b q => ⟨(m4 b q).1.1, (m4 b q).2⟩)⟩, (Chg.refl C w).trans2 hcw (fun b hl q => q.elim (fun q => q.1) (fun q => by omega))⟩

end Go.Proofs.Ytcmfjnadjddboaa

/- A clause is named anew: plain, and its state. -/
namespace Go.Proofs.Ytcmfjnadjddboaa
open Go.RowKit Go
set_option linter.unusedVariables false
set_option linter.unusedSimpArgs false

/-- A literal, a clause, named anew. -/
def Li.rn (x : Li) (ns : List Int) : Li × List Int := (⟨x.neg, (x.l.rn ns).1, (x.r.rn (x.l.rn ns).2).1⟩, (x.r.rn (x.l.rn ns).2).2)
def clRn : List Li → List Int → List Li × List Int
  | [], ns => ([], ns)
  | x :: r, ns => ((x.rn ns).1 :: (clRn r (x.rn ns).2).1, (clRn r (x.rn ns).2).2)
def clSz : List Li → Nat
  | [] => 0
  | x :: r => x.l.size + x.r.size + clSz r
theorem clRn_len : ∀ (l : List Li) (ns : List Int), (clRn l ns).1.length = l.length
  | [], _ => rfl
  | x :: r, ns => by rw [clRn, List.length_cons, List.length_cons, clRn_len r]
theorem clRn_snoc : ∀ (l : List Li) (x : Li) (ns : List Int), clRn (l ++ [x]) ns = ((clRn l ns).1 ++ [(x.rn (clRn l ns).2).1], (x.rn (clRn l ns).2).2)
  | [], x, ns => rfl
  | y :: l, x, ns => by rw [List.cons_append, clRn, clRn, clRn_snoc l x]; rfl
theorem clRn_take {l : List Li} {k : Nat} (h : k < l.length) (ns : List Int) : clRn (l.take (k + 1)) ns = ((clRn (l.take k) ns).1 ++ [((lget l k).rn (clRn (l.take k) ns).2).1], ((lget l k).rn (clRn (l.take k) ns).2).2) := by
  rw [List.take_succ_eq_append_getElem h, clRn_snoc, lget_lt h]
theorem clSz_snoc : ∀ (l : List Li) (x : Li), clSz (l ++ [x]) = clSz l + (x.l.size + x.r.size)
  | [], x => by simp [clSz]
  | y :: l, x => by rw [List.cons_append, clSz, clSz, clSz_snoc l x]; omega
theorem clSz_take {l : List Li} {k : Nat} (h : k < l.length) : clSz (l.take (k + 1)) = clSz (l.take k) + ((lget l k).l.size + (lget l k).r.size) := by
  rw [List.take_succ_eq_append_getElem h, clSz_snoc, lget_lt h]
theorem clSz_le : ∀ {l : List Li} {k : Nat}, clSz (l.take k) ≤ clSz l
  | [], k => by simp
  | x :: l, 0 => by simp [clSz]
  | x :: l, k + 1 => by have := clSz_le (l := l) (k := k); simp only [List.take_succ_cons, clSz]; omega
theorem clRn_names : ∀ (l : List Li) (ns : List Int), (clRn l ns).2.length ≤ ns.length + clSz l
  | [], ns => by simp [clRn, clSz]
  | x :: r, ns => by
    have h1 := (T.rn_len x.l ns).2
    have h2 := (T.rn_len x.r (x.l.rn ns).2).2
    have h3 := clRn_names r (x.rn ns).2
    rw [clRn, clSz]
    have e : (x.rn ns).2 = (x.r.rn (x.l.rn ns).2).2 := rfl
    rw [e] at h3
    simp only
    rw [e]
    omega
/-- The state: what was named; the row of the literals so far. 'C0': what the names owned at first, 'N': what is new. -/
def ClSt (C0 N : Nat → Prop) (gn gs : Nat) (ns : List Int) (L : List Li) (ra : Option Addr) (rc n : Nat) (w : World) : Prop := ∃ C, NmAt w gn gs ns C ∧ (∀ b, C b → C0 b ∨ N b) ∧ RowD eltL (fun b => N b ∧ ¬ C b ∧ (Value.slice ra n rc).ownBlock ≠ some b) w 41 ra rc n L ∧ (∀ b, (Value.slice ra n rc).ownBlock = some b → N b ∧ ¬ C b)
section
variable {C0 N N' : Nat → Prop} {gn gs : Nat} {ns : List Int} {L : List Li} {ra : Option Addr} {rc n : Nat} {w w' : World}
theorem ClSt.below (h : ClSt C0 N gn gs ns L ra rc n w) (hb : Below w.heap.size w w') : ClSt C0 N gn gs ns L ra rc n w' := by
  obtain ⟨C, h1, h2, h3, h4⟩ := h
  exact ⟨C, h1.below hb, h2, h3.below hb, h4⟩
theorem ClSt.mono (h : ClSt C0 N gn gs ns L ra rc n w) (hN : ∀ b, N b → b < w.heap.size → N' b) : ClSt C0 N' gn gs ns L ra rc n w := by
  obtain ⟨C, h1, h2, h3, h4⟩ := h
  exact ⟨C, h1, fun b q => (h2 b q).imp id (fun q2 => hN b q2 (h1.clt b q)), h3.mono (fun b q q2 => ⟨hN b q.1 q2, q.2⟩) (fun b q => q.2.2), fun b q => ⟨hN b (h4 b q).1 (h3.lt b q), (h4 b q).2⟩⟩
theorem ClSt.chg {S : Nat → Prop} (h : ClSt C0 N gn gs ns L ra rc n w) (hc : Chg S w w') (h0 : ∀ b, C0 b → ¬ S b) (h1 : ∀ b, N b → ¬ S b) : ClSt C0 N gn gs ns L ra rc n w' := by
  obtain ⟨C, k1, k2, k3, k4⟩ := h
  exact ⟨C, k1.chg hc (fun b q => (k2 b q).elim (h0 b) (h1 b)), k2, k3.chg hc (fun b q => h1 b (k4 b q).1) (fun b q => h1 b q.1), k4⟩
theorem ClSt.start {C : Nat → Prop} (h : NmAt w gn gs ns C) (hC : ∀ b, C b → C0 b ∨ N b) : ClSt C0 N gn gs ns [] none 0 0 w := ⟨C, h, hC, RowD.nil, fun b q => (nomatch q)⟩
/-- What the region finds: a term is made, a row of it alone, it is appended, it is stored. -/
theorem ClSt.join {C1 C2 Z : Nat → Prop} {w0 : World} {xk : Li} {ra2 : Option Addr} {rc2 : Nat} {ns2 : List Int} (h2 : ∀ b, C1 b → C0 b ∨ N b) (h3 : ∀ b, (Value.slice ra n rc).ownBlock = some b → N b ∧ ¬ C1 b) (h3l : ∀ b, (Value.slice ra n rc).ownBlock = some b → b < w0.heap.size) (hN : ∀ b, w0.heap.size ≤ b → N b) (k1 : NmAt w' gn gs ns2 C2) (k2 : ∀ b, C2 b → C1 b ∨ w0.heap.size ≤ b)
    (k3 : RowD eltL Z w' 41 ra2 rc2 (n + 1) (L ++ [xk])) (k4 : ∀ b, Z b → (N b ∧ ¬ C1 b ∧ b < w0.heap.size) ∨ (w0.heap.size ≤ b ∧ ¬ C2 b)) (k5 : ∀ b, (Value.slice ra2 (n + 1) rc2).ownBlock = some b → (Value.slice ra n rc).ownBlock = some b ∨ (w0.heap.size ≤ b ∧ ¬ C2 b)) : ClSt C0 N gn gs ns2 (L ++ [xk]) ra2 rc2 (n + 1) w' := by
  refine ⟨C2, k1, fun b q => (k2 b q).elim (h2 b) (fun q => .inr (hN b q)), k3.mono (fun b q q2 => ⟨?_, ?_, k3.ne b q⟩) (fun b q => q.2.2), fun b q => ?_⟩
  · rcases k4 b q with q3 | q3
    · exact q3.1
    · exact hN b q3.1
  · rcases k4 b q with q3 | q3
    · intro q4
      rcases k2 b q4 with q5 | q5
      · exact q3.2.1 q5
      · omega
    · exact q3.2
  · rcases k5 b q with q3 | q3
    · refine ⟨(h3 b q3).1, fun q4 => ?_⟩
      rcases k2 b q4 with q5 | q5
      · exact (h3 b q3).2 q5
      · have := h3l b q3; omega
    · exact ⟨hN b q3.1, q3.2⟩
end
end Go.Proofs.Ytcmfjnadjddboaa

/- The comparison that Normal sorts by. -/
namespace Go.Proofs.Ytcmfjnadjddboaa
open Go.RowKit Go.Sort Go.Shelf Go
set_option linter.unusedVariables false
set_option linter.unusedSimpArgs false

set_option maxHeartbeats 1000000 in
theorem ncmp1_any (x y : BdV) (W : World) : Calls Try.prog 49 #[.agg #[.int .i64 x.1.var, normB x.2.1, normB x.2.2], .agg #[.int .i64 y.1.var, normB y.2.1, normB y.2.2]] W fun e w' => e = .returned (.int .i64 (cmpB x y)) ∧ ∃ q os', w' = grow (W.drewN q) os' := by
  have hcon := fun W' => AnyG.cmp_Compare_int Try.lCmpInt x.1.var y.1.var W'
  change ∀ W', Calls Try.prog 42 _ _ _ at hcon
  unfold cmpB
  have o1 := normB_one x.2.1
  have o2 := normB_one x.2.2
  have o3 := normB_one y.2.1
  have o4 := normB_one y.2.2
  generalize Lib.compareInt x.1.var y.1.var = r at hcon ⊢
  generalize normB x.2.1 = a1 at *
  generalize normB x.2.2 = a2 at *
  generalize normB y.2.1 = a3 at *
  generalize normB y.2.2 = a4 at *
  go_enter Try.func49, Try.ntmps49
  go_wp2_with (go_at_call 42; refine (hcon _).mono ?_; rintro e w' ⟨rfl, rfl⟩)
  go_ret
  exact ⟨rfl, 0, _, by rw [alloc_eq_grow, alloc_eq_grow, grow_grow]; rfl⟩
theorem cmpIs_norm : CmpIs 49 := ⟨enters_of Try.func49 (by kernel_rfl) rfl, fun x y W => ncmp1_any x y W⟩

end Go.Proofs.Ytcmfjnadjddboaa

namespace Go.Proofs.Ytcmfjnadjddboaa
open Go.RowKit Go
set_option linter.unusedVariables false
set_option linter.unusedSimpArgs false

set_option linter.unnecessarySimpa false

/-- What Normal tells. -/
def NormIs (cl : List Li) (w' : World) (v' : Value) : Prop := ∃ (oa : Option Addr) (oc : Nat) (sa : Option Addr) (sc : Nat) (R : List Bd), v' = .tuple #[.slice oa cl.length oc, .slice sa R.length sc] ∧ InRow eltL (fun _ => True) w' (clRn cl []).1 oa ∧ cl.length ≤ oc ∧ oc ≤ maxLen ∧ R.Perm (nmB (clRn cl []).2 0) ∧ R.Pairwise (fun x y => x.var ≤ y.var) ∧ InRow eltB (fun _ => True) w' R sa ∧ R.length ≤ sc ∧ sc ≤ maxLen
set_option maxRecDepth 100000 in
set_option maxHeartbeats 2000000 in
theorem normal_any (cl : List Li) (w : World) (a : Option Addr) (c : Nat) (hC : IsCl w cl a c) (hsz : clSz cl ≤ 4294967296) : Calls Try.prog 26 #[.slice a cl.length c] w (Ret fun v' w' => NormIs cl w' v' ∧ Below w.heap.size w w') := by
  have hclen := hC.len
  have hccap := hC.cap
  have hcsm := hC.small
  unfold maxLen at hccap
  refine Calls.walk (l := [.slice a cl.length c]) Try.func26 rfl (by kernel_rfl) ?_
  refine WC.sub (K' := [(0, .slice a cl.length c)]) ⟨rfl, trivial⟩ ?_
  refine WC.seq ?_
  refine WC.region ?_
  refine WL.val (.slice none 0 0) rfl rfl rfl (fun za zC zh zk => wp_assign rfl (zh.ev rfl) zk) ?_
  refine WL.val (.slice none 0 0) rfl rfl rfl (fun za zC zh zk => wp_assign rfl (zh.ev rfl) zk) ?_
  refine WL.nil (WE.sub (K' := [(0, .slice a cl.length c), (2, .slice none 0 0), (3, .slice none 0 0)]) ⟨rfl, rfl, rfl, trivial⟩ ?_)
  refine WE.next ?_
  refine WC.seq ?_
  refine WC.region ?_
  refine WL.step (post := NewMap w) rfl rfl rfl (fun za zC zh zk => wp_makeMap_im rfl zk) ?_
  rintro _ w1 ⟨g2, rfl, hg3, hM4, hb5, hz6⟩
  have hl7 : w.heap.size ≤ g2 := by omega
  refine WL.step (post := NewBlk w1 78 #[.map none]) rfl rfl rfl (fun za zC zh zk => alloc_78 rfl (zk _ _ (newBlk _ _ _))) ?_
  rintro _ w8 ⟨g9, rfl, hg10, hB11, hb12, hz13⟩
  have hl14 : g2 < g9 := by have z1 := hM4.lt; omega
  have hl15 : w.heap.size ≤ g9 := by have z2 := (hb5).size; omega
  refine WL.step (post := fun _ w' => Upd g9 w8 w' ∧ Blk w' g9 78 #[.map ((some g2))]) rfl rfl rfl (fun za zC zh zk => st_78 rfl (zh.ev rfl) (zh.ev rfl) hB11 (by first | decide | simp) (fun v => zk v _ ⟨Upd.at_ _ _ _ _, hB11.set_ 0 _⟩)) ?_
  rintro v19 w16 ⟨hu17, hB18⟩
  have hb20 : Below w.heap.size w w8 := (bstep hb5 hb12)
  have hb21 := upd_below hb20 hu17 (by omega)
  have ho22 := hM4.below hb12
  have ho23 := ho22.upd hu17 (by omega)
  refine WL.nil (WE.sub (K' := [(0, .slice a cl.length c), (2, .slice none 0 0), (3, .slice none 0 0), (4, .pointer (some ⟨g9, 0, none⟩))]) ⟨rfl, rfl, rfl, rfl, trivial⟩ ?_)
  refine WE.next ?_
  refine WC.seq ?_
  refine WC.region ?_
  refine WL.step (post := NewBlk w16 26 #[.slice none 0 0]) rfl rfl rfl (fun za zC zh zk => alloc_26 rfl (zk _ _ (newBlk _ _ _))) ?_
  rintro _ w24 ⟨g25, rfl, hg26, hB27, hb28, hz29⟩
  have hl30 : g9 < g25 := by have z1 := hB18.lt; omega
  have hl31 : g2 < g25 := by have z1 := ho23.lt; omega
  have hl32 : w.heap.size ≤ g25 := by have z2 := (hb21).size; omega
  refine WL.nil (WE.sub (K' := [(0, .slice a cl.length c), (2, .slice none 0 0), (3, .slice none 0 0), (4, .pointer (some ⟨g9, 0, none⟩)), (5, .pointer (some ⟨g25, 0, none⟩))]) ⟨rfl, rfl, rfl, rfl, rfl, trivial⟩ ?_)
  refine WE.next ?_
  refine WC.seq ?_
  refine WC.region ?_
  refine WL.val (.func (Fn.func 47) #[] #[.pointer (some ⟨g9, 0, none⟩), .pointer (some ⟨g25, 0, none⟩)]) rfl rfl rfl (fun za zC zh zk => mkfn rfl (hv0) (hv2 (zh.ev rfl) (zh.ev rfl)) zk) ?_
  refine WL.val (.func (Fn.func 47) #[] #[.pointer (some ⟨g9, 0, none⟩), .pointer (some ⟨g25, 0, none⟩)]) rfl rfl rfl (fun za zC zh zk => wp_assign rfl (zh.ev rfl) zk) ?_
  refine WL.nil (WE.sub (K' := [(0, .slice a cl.length c), (2, .slice none 0 0), (3, .slice none 0 0), (4, .pointer (some ⟨g9, 0, none⟩)), (5, .pointer (some ⟨g25, 0, none⟩)), (6, .func (Fn.func 47) #[] #[.pointer (some ⟨g9, 0, none⟩), .pointer (some ⟨g25, 0, none⟩)])]) ⟨rfl, rfl, rfl, rfl, rfl, rfl, trivial⟩ ?_)
  refine WE.next ?_
  refine WC.seq ?_
  refine WC.region ?_
  refine WL.val (.slice none 0 0) rfl rfl rfl (fun za zC zh zk => wp_assign rfl (zh.ev rfl) zk) ?_
  refine WL.nil (WE.sub (K' := [(0, .slice a cl.length c), (2, .slice none 0 0), (3, .slice none 0 0), (4, .pointer (some ⟨g9, 0, none⟩)), (5, .pointer (some ⟨g25, 0, none⟩)), (6, .func (Fn.func 47) #[] #[.pointer (some ⟨g9, 0, none⟩), .pointer (some ⟨g25, 0, none⟩)]), (7, .slice none 0 0)]) ⟨rfl, rfl, rfl, rfl, rfl, rfl, rfl, trivial⟩ ?_)
  refine WE.next ?_
  refine WC.seq ?_
  refine WC.seq ?_
  refine WC.region ?_
  refine WL.val (.slice a cl.length c) rfl rfl rfl (fun za zC zh zk => wp_move rfl (zh.ev rfl) zk) ?_
  refine WL.val (.int .i64 (((cl.length : Nat) : Int))) rfl rfl rfl (fun za zC zh zk => len_50 rfl (zh.ev rfl) zk) ?_
  refine WL.val (.int .i64 0) rfl rfl rfl (fun za zC zh zk => wp_move rfl (zh.ev rfl) zk) ?_
  refine WL.nil (WE.sub (K' := [(0, .slice a cl.length c), (2, .slice none 0 0), (3, .slice none 0 0), (4, .pointer (some ⟨g9, 0, none⟩)), (5, .pointer (some ⟨g25, 0, none⟩)), (6, .func (Fn.func 47) #[] #[.pointer (some ⟨g9, 0, none⟩), .pointer (some ⟨g25, 0, none⟩)]), (7, .slice none 0 0), (13, .slice a cl.length c), (14, .int .i64 (((cl.length : Nat) : Int))), (15, .int .i64 0)]) ⟨rfl, rfl, rfl, rfl, rfl, rfl, rfl, rfl, rfl, rfl, trivial⟩ ?_)
  refine WE.next ?_
  refine WC.block ?_
  have hB33 := hB18.below hb28
  have hl34 : g9 < w24.heap.size := hB33.lt
  have hl35 : w.heap.size ≤ g9 := by have z : w.heap.size ≤ w1.heap.size := hb5.size; omega
  have hl36 : g25 < w24.heap.size := hB27.lt
  have hl37 : w.heap.size ≤ g25 := by have z : w.heap.size ≤ w16.heap.size := hb21.size; omega
  have ho38 := ho23.below hb28
  have hmbw : w.heap.size ≤ g2 := by have z : w.heap.size ≤ w.heap.size := (Nat.le_refl _); omega
  have hNm : NmAt w24 g9 g25 [] (fun b => b = g9 ∨ b = g25 ∨ b = g2) := ⟨g2, #[], 0, none, 0, ⟨hB33, ho38, ImE.nil, hB27, RowD.nil, by omega, .inl rfl, .inr (.inl rfl), .inr (.inr rfl), fun b q => (nomatch q), fun b q => by rcases q with rfl | rfl | rfl; exact hB33.lt; exact hB27.lt; exact ho38.lt⟩⟩
  have hst0 : ClSt (fun _ => False) (fun b => w.heap.size ≤ b) g9 g25 [] [] none 0 0 w24 := ClSt.start hNm (fun b q => .inr (by rcases q with rfl | rfl | rfl <;> assumption))
  refine WC.loop (X := Nat × Option Addr × Nat) (fun x => cl.length - x.1) (fun x => [(0, .slice a cl.length c), (2, .slice none 0 0), (3, .slice none 0 0), (4, .pointer (some ⟨g9, 0, none⟩)), (5, .pointer (some ⟨g25, 0, none⟩)), (6, .func (Fn.func 47) #[] #[.pointer (some ⟨g9, 0, none⟩), .pointer (some ⟨g25, 0, none⟩)]), (7, .slice x.2.1 x.1 x.2.2), (13, .slice a cl.length c), (14, .int .i64 (((cl.length : Nat) : Int))), (15, .int .i64 (((x.1 : Nat) : Int)))]) (fun x w39 => x.1 ≤ cl.length ∧ Below w.heap.size w w39 ∧ ClSt (fun _ => False) (fun b => w.heap.size ≤ b) g9 g25 (clRn (cl.take x.1) []).2 (clRn (cl.take x.1) []).1 x.2.1 x.2.2 x.1 (w39)) ((0, none, 0)) ⟨rfl, rfl, rfl, rfl, rfl, rfl, rfl, rfl, rfl, rfl, trivial⟩ ?_ ?_
  · have hb40 : Below w.heap.size w w24 := (bstep hb21 hb28)
    exact ⟨Nat.zero_le _, hb40, (by simpa [clRn] using hst0)⟩
  · rintro x w39 ⟨hk, hb41, ho42⟩
    refine WC.seq ?_
    refine WC.region ?_
    refine WL.val (.bool ((decide ((((x.1 : Nat) : Int) : Int) < (((cl.length : Nat) : Int) : Int))))) rfl rfl rfl (fun za zC zh zk => lss_3 rfl (zh.ev rfl) (zh.ev rfl) zk) ?_
    refine WL.nil (WE.sub (K' := [(0, .slice a cl.length c), (2, .slice none 0 0), (3, .slice none 0 0), (4, .pointer (some ⟨g9, 0, none⟩)), (5, .pointer (some ⟨g25, 0, none⟩)), (6, .func (Fn.func 47) #[] #[.pointer (some ⟨g9, 0, none⟩), .pointer (some ⟨g25, 0, none⟩)]), (7, .slice x.2.1 x.1 x.2.2), (13, .slice a cl.length c), (14, .int .i64 (((cl.length : Nat) : Int))), (15, .int .i64 (((x.1 : Nat) : Int))), (16, .bool ((decide ((((x.1 : Nat) : Int) : Int) < (((cl.length : Nat) : Int) : Int)))))]) ⟨rfl, rfl, rfl, rfl, rfl, rfl, rfl, rfl, rfl, rfl, rfl, trivial⟩ ?_)
    refine WE.next ?_
    refine WC.seq ?_
    refine WC.cond rfl (fun h43 => ?_) (fun h43 => ?_)
    · have h43 : (((x.1 : Nat) : Int) : Int) < (((cl.length : Nat) : Int) : Int) := by simpa using h43
      refine WC.skip ?_
      refine WE.next ?_
      refine WC.seq ?_
      refine WC.block ?_
      refine WC.seq ?_
      refine WC.region ?_
      obtain ⟨b44, o45, A46, C47, A48, C49, ha50, hc51⟩ := InRow.openL hC.rows
      refine WL.val (.pointer (some ⟨b44, o45 + x.1 * 5, none⟩)) rfl rfl rfl (fun za zC zh zk => ix_50 (k := x.1) rfl (zh.ev rfl) (ha50 x.1 (by first | omega | (simp; omega))) (zh.ev rfl) (by first | omega | (simp; omega)) zk) ?_
      refine WL.val (.agg #[.bool ((lget cl x.1).neg), .int .i64 ((lget cl x.1).l.f), .slice ((A46 x.1)) ((lget cl x.1).l.args.length) ((C47 x.1)), .int .i64 ((lget cl x.1).r.f), .slice ((A48 x.1)) ((lget cl x.1).r.args.length) ((C49 x.1))]) rfl rfl rfl (fun za zC zh zk => ld_41 rfl (zh.ev rfl) (bkeeps hb41 _ _ (hc51 x.1 (by first | omega | (simp; omega))).1) (bkeeps hb41 _ _ (hc51 x.1 (by first | omega | (simp; omega))).2.1) (bkeeps hb41 _ _ (hc51 x.1 (by first | omega | (simp; omega))).2.2.1) (bkeeps hb41 _ _ (hc51 x.1 (by first | omega | (simp; omega))).2.2.2.1) (bkeeps hb41 _ _ (hc51 x.1 (by first | omega | (simp; omega))).2.2.2.2.1) zk) ?_
      refine WL.step (post := NewBlk w39 41 #[.bool false, .int .i64 0, .slice none 0 0, .int .i64 0, .slice none 0 0]) rfl rfl rfl (fun za zC zh zk => alloc_41 rfl (zk _ _ (newBlk _ _ _))) ?_
      rintro _ w52 ⟨g53, rfl, hg54, hB55, hb56, hz57⟩
      have hl58 : w.heap.size ≤ g53 := by have z2 := (hb41).size; omega
      have hl59 : w39.heap.size ≤ g53 := by omega
      refine WL.step (post := fun _ w' => Upd g53 w52 w' ∧ Blk w' g53 41 #[.bool ((lget cl x.1).neg), .int .i64 ((lget cl x.1).l.f), .slice ((A46 x.1)) ((lget cl x.1).l.args.length) ((C47 x.1)), .int .i64 ((lget cl x.1).r.f), .slice ((A48 x.1)) ((lget cl x.1).r.args.length) ((C49 x.1))]) rfl rfl rfl (fun za zC zh zk => st_41 rfl (zh.ev rfl) (zh.ev rfl) rfl rfl rfl rfl rfl hB55 (by first | decide | simp) (fun v => zk v _ ⟨((((Upd.at_ _ _ _ _).trans (Upd.at_ _ _ _ _)).trans (Upd.at_ _ _ _ _)).trans (Upd.at_ _ _ _ _)).trans (Upd.at_ _ _ _ _), ((((hB55.set_ 0 _).set_ 1 _).set_ 2 _).set_ 3 _).set_ 4 _⟩)) ?_
      rintro v63 w60 ⟨hu61, hB62⟩
      have hb64 : Below w.heap.size w w52 := (bstep hb41 hb56)
      have hb65 := upd_below hb64 hu61 (by omega)
      have hb66 := upd_below hb56 hu61 (by omega)
      refine WL.nil (WE.sub (K' := [(0, .slice a cl.length c), (2, .slice none 0 0), (3, .slice none 0 0), (4, .pointer (some ⟨g9, 0, none⟩)), (5, .pointer (some ⟨g25, 0, none⟩)), (6, .func (Fn.func 47) #[] #[.pointer (some ⟨g9, 0, none⟩), .pointer (some ⟨g25, 0, none⟩)]), (7, .slice x.2.1 x.1 x.2.2), (9, .pointer (some ⟨g53, 0, none⟩)), (13, .slice a cl.length c), (14, .int .i64 (((cl.length : Nat) : Int))), (15, .int .i64 (((x.1 : Nat) : Int))), (16, .bool ((decide ((((x.1 : Nat) : Int) : Int) < (((cl.length : Nat) : Int) : Int)))))]) ⟨rfl, rfl, rfl, rfl, rfl, rfl, rfl, rfl, rfl, rfl, rfl, rfl, trivial⟩ ?_)
      refine WE.next ?_
      refine WC.seq ?_
      refine WC.region ?_
      refine WL.val (.pointer (some ⟨g53, 1, none⟩)) rfl rfl rfl (fun za zC zh zk => fld_41_1 rfl (zh.ev rfl) zk) ?_
      refine WL.val (.agg #[.int .i64 ((lget cl x.1).l.f), .slice ((A46 x.1)) ((lget cl x.1).l.args.length) ((C47 x.1))]) rfl rfl rfl (fun za zC zh zk => ld_24 rfl (zh.ev rfl) ((hB62.cell 1).trans rfl) ((hB62.cell 2).trans rfl) zk) ?_
      refine WL.val (.func (Fn.func 47) #[] #[.pointer (some ⟨g9, 0, none⟩), .pointer (some ⟨g25, 0, none⟩)]) rfl rfl rfl (fun za zC zh zk => wp_move rfl (zh.ev rfl) zk) ?_
      have hLi := IsT.inT (InT.isT (hc51 x.1 (by first | omega | (simp; omega))).2.2.2.2.2.1)
      have hRi := IsT.inT (InT.isT (hc51 x.1 (by first | omega | (simp; omega))).2.2.2.2.2.2)
      have hl9 : g53 < w60.heap.size := hB62.lt
      have hi9 : w39.heap.size ≤ g53 := by have z : w39.heap.size ≤ w39.heap.size := (Nat.le_refl _); omega
      have hw0 : w.heap.size ≤ w60.heap.size := hb65.size
      have hwi : w.heap.size ≤ w39.heap.size := hb41.size
      obtain ⟨Ck, hk1, hk2, hk30, hk4⟩ := (ClSt.mono (N' := (fun b => w.heap.size ≤ b ∧ b ≠ g53)) ho42 (fun b q z => by (try dsimp only at *); omega)).below hb66
      have hkl : ∀ b, (Value.slice x.2.1 x.1 x.2.2).ownBlock = some b → b < w60.heap.size := hk30.lt
      have hk3 := hk30.mono (S' := fun b => ((fun b => w.heap.size ≤ b ∧ b ≠ g53) b ∧ ¬ Ck b ∧ (Value.slice x.2.1 x.1 x.2.2).ownBlock ≠ some b) ∧ b < w60.heap.size) (fun b q z => ⟨q, z⟩) (fun b q => q.1.2.2)
      have hkN : ∀ b, Ck b → (fun b => w.heap.size ≤ b ∧ b ≠ g53) b := fun b q => (hk2 b q).elim (fun z => z.elim) id
      have hnm9 := clRn_names (cl.take x.1) []
      have hsz1 := clSz_take (l := cl) (k := x.1) (by omega)
      have hsz2 := clSz_le (l := cl) (k := x.1 + 1)
      have hrl1 := T.rn_len (lget cl x.1).l (clRn (cl.take x.1) []).2
      have hpl := hC.pl (k := x.1) (by omega)
      have hpr := hC.pr (k := x.1) (by omega)
      simp only [List.length_nil] at hnm9
      refine WL.call rfl rfl rfl (fun za zh zC => wp_call (by kernel_rfl) rfl (hv2 (zh.ev rfl) (zh.ev rfl))) (rn_any (lget cl x.1).l g9 g25 (clRn (cl.take x.1) []).2 Ck (fun b => b < w.heap.size) _ _ hk1 (InT.below hb65 hLi) (fun b q q2 => by have z := hkN b q2; (try dsimp only at z); omega) hpl (by omega)) ?_
      rintro v67 w68 ⟨⟨C2, hn2, hc2, hlf⟩, hcA⟩
      obtain ⟨_, la, lc, rfl, _, _, _⟩ := hlf.form
      have hrw := hk3.chg hcA (fun b q => (hk4 b q).2) (fun b q => q.1.2.1)
      have hb69 := chg_below hb65 hcA (fun b hb => (fun h => by have z := hkN _ h; (try dsimp only at *); omega))
      have hB70 := chg_blk hB62 hcA (fun h => by have z := hkN _ h; (try dsimp only at *); omega)
      refine WL.step (post := NewBlk w68 24 #[.int .i64 0, .slice none 0 0]) rfl rfl rfl (fun za zC zh zk => alloc_24 rfl (zk _ _ (newBlk _ _ _))) ?_
      rintro _ w71 ⟨g72, rfl, hg73, hB74, hb75, hz76⟩
      have hl77 : g53 < g72 := by have z1 := hB70.lt; omega
      have hl78 : w.heap.size ≤ g72 := by have z2 := (hb69).size; omega
      have hl79 : w68.heap.size ≤ g72 := by omega
      refine WL.step (post := fun _ w' => Upd g72 w71 w' ∧ Blk w' g72 24 #[.int .i64 ((T.rn (lget cl x.1).l (clRn (cl.take x.1) []).2).1.f), .slice la ((T.rn (lget cl x.1).l (clRn (cl.take x.1) []).2).1.args.length) lc]) rfl rfl rfl (fun za zC zh zk => st_24 rfl (zh.ev rfl) (zh.ev rfl) rfl rfl hB74 (by first | decide | simp) (fun v => zk v _ ⟨(Upd.at_ _ _ _ _).trans (Upd.at_ _ _ _ _), (hB74.set_ 0 _).set_ 1 _⟩)) ?_
      rintro v83 w80 ⟨hu81, hB82⟩
      have hb84 : Below w.heap.size w w71 := (bstep hb69 hb75)
      have hb85 := upd_below hb84 hu81 (by omega)
      have hb86 := upd_below hb75 hu81 (by omega)
      have hB87 := hB70.below hb75
      have hB88 := upd_blk hB87 hu81 (by omega)
      refine WL.nil (WE.sub (K' := [(0, .slice a cl.length c), (2, .slice none 0 0), (3, .slice none 0 0), (4, .pointer (some ⟨g9, 0, none⟩)), (5, .pointer (some ⟨g25, 0, none⟩)), (6, .func (Fn.func 47) #[] #[.pointer (some ⟨g9, 0, none⟩), .pointer (some ⟨g25, 0, none⟩)]), (7, .slice x.2.1 x.1 x.2.2), (9, .pointer (some ⟨g53, 0, none⟩)), (10, .pointer (some ⟨g72, 0, none⟩)), (13, .slice a cl.length c), (14, .int .i64 (((cl.length : Nat) : Int))), (15, .int .i64 (((x.1 : Nat) : Int))), (16, .bool ((decide ((((x.1 : Nat) : Int) : Int) < (((cl.length : Nat) : Int) : Int)))))]) ⟨rfl, rfl, rfl, rfl, rfl, rfl, rfl, rfl, rfl, rfl, rfl, rfl, rfl, trivial⟩ ?_)
      refine WE.next ?_
      have ho89 := hn2.below hb86
      have ho90 := hrw.below hb86
      have ho91 := hlf.below hb86
      have hl92 : g53 < w80.heap.size := hB88.lt
      have hl93 : g72 < w80.heap.size := hB82.lt
      have h09 : w60.heap.size ≤ w80.heap.size := (Nat.le_trans hcA.size hb86.size)
      have hL9 := InT.mono (S' := fun b => (w60.heap.size ≤ b ∧ ¬ C2 b) ∧ b < w80.heap.size) (fun b q z => ⟨q, z⟩) ho91
      have hR9 := InT.below hb85 hRi
      have hcl2 := ho89.clt
      have hnA9 : ∀ b, b < w.heap.size → ¬ (fun b => C2 b ∨ (Value.slice x.2.1 x.1 x.2.2).ownBlock = some b) b := fun b hb q => by
        rcases q with q | q
        · rcases hc2 b q with z | z
          · have z2 := hkN b z; (try dsimp only at z2); omega
          · omega
        · have z := (hk4 b q).1; (try dsimp only at z); omega
      have hn9b : ¬ (fun b => C2 b ∨ (Value.slice x.2.1 x.1 x.2.2).ownBlock = some b) g53 := fun q => by
        rcases q with q | q
        · rcases hc2 _ q with z | z
          · have z2 := hkN _ z; (try dsimp only at z2); omega
          · omega
        · have z := (hk4 _ q).1; (try dsimp only at z); omega
      have hn10b : ¬ (fun b => C2 b ∨ (Value.slice x.2.1 x.1 x.2.2).ownBlock = some b) g72 := fun q => by
        rcases q with q | q
        · have z := hn2.clt _ q; omega
        · have z := hkl _ q; have z2 : w60.heap.size ≤ w68.heap.size := hcA.size; omega
      have hcap7 := hk3.inRow
      have hcap8 := hcap7.2.2
      unfold maxLen at hcap8
      have hGV9 : ∀ (vals : List Value) (wa wb : World), Below wa.heap.size wa wb → (fun vals wz => match vals with | [] => NmAt wz g9 g25 (T.rn (lget cl x.1).l (clRn (cl.take x.1) []).2).2 C2 ∧ RowD eltL (fun b => ((fun b => w.heap.size ≤ b ∧ b ≠ g53) b ∧ ¬ Ck b ∧ (Value.slice x.2.1 x.1 x.2.2).ownBlock ≠ some b) ∧ b < w60.heap.size) wz 41 x.2.1 x.2.2 x.1 (clRn (cl.take x.1) []).1 ∧ InT (fun b => ((w60.heap.size ≤ b ∧ ¬ C2 b) ∧ b < w80.heap.size)) wz (T.rn (lget cl x.1).l (clRn (cl.take x.1) []).2).1 (.agg #[.int .i64 ((T.rn (lget cl x.1).l (clRn (cl.take x.1) []).2).1.f), .slice la ((T.rn (lget cl x.1).l (clRn (cl.take x.1) []).2).1.args.length) lc]) | [z0] => ∃ C3, NmAt wz g9 g25 (T.rn (lget cl x.1).r (T.rn (lget cl x.1).l (clRn (cl.take x.1) []).2).2).2 C3 ∧ (∀ b, C3 b → C2 b ∨ w80.heap.size ≤ b) ∧ InT (fun b => w80.heap.size ≤ b ∧ ¬ C3 b) wz (T.rn (lget cl x.1).r (T.rn (lget cl x.1).l (clRn (cl.take x.1) []).2).2).1 z0 ∧ InT (fun b => ((w60.heap.size ≤ b ∧ ¬ C2 b) ∧ b < w80.heap.size)) wz (T.rn (lget cl x.1).l (clRn (cl.take x.1) []).2).1 (.agg #[.int .i64 ((T.rn (lget cl x.1).l (clRn (cl.take x.1) []).2).1.f), .slice la ((T.rn (lget cl x.1).l (clRn (cl.take x.1) []).2).1.args.length) lc]) ∧ RowD eltL (fun b => ((fun b => w.heap.size ≤ b ∧ b ≠ g53) b ∧ ¬ Ck b ∧ (Value.slice x.2.1 x.1 x.2.2).ownBlock ≠ some b) ∧ b < w60.heap.size) wz 41 x.2.1 x.2.2 x.1 (clRn (cl.take x.1) []).1 | [_, z1] => ∃ C3, NmAt wz g9 g25 (T.rn (lget cl x.1).r (T.rn (lget cl x.1).l (clRn (cl.take x.1) []).2).2).2 C3 ∧ (∀ b, C3 b → C2 b ∨ w80.heap.size ≤ b) ∧ LiIn (fun b => ((w60.heap.size ≤ b ∧ ¬ C2 b) ∧ b < w80.heap.size) ∨ (w80.heap.size ≤ b ∧ ¬ C3 b)) wz (Li.rn (lget cl x.1) (clRn (cl.take x.1) []).2).1 z1 ∧ RowD eltL (fun b => ((fun b => w.heap.size ≤ b ∧ b ≠ g53) b ∧ ¬ Ck b ∧ (Value.slice x.2.1 x.1 x.2.2).ownBlock ≠ some b) ∧ b < w60.heap.size) wz 41 x.2.1 x.2.2 x.1 (clRn (cl.take x.1) []).1 | [_, _, z2] => ∃ C3 g1 cs, z2 = .slice (some ⟨g1, 0, none⟩) 1 1 ∧ Blk wz g1 41 (List.toArray cs) ∧ eltL.In (fun b => ((w60.heap.size ≤ b ∧ ¬ C2 b) ∧ b < w80.heap.size) ∨ (w80.heap.size ≤ b ∧ ¬ C3 b)) wz (Li.rn (lget cl x.1) (clRn (cl.take x.1) []).2).1 cs ∧ NmAt wz g9 g25 (T.rn (lget cl x.1).r (T.rn (lget cl x.1).l (clRn (cl.take x.1) []).2).2).2 C3 ∧ (∀ b, C3 b → C2 b ∨ w80.heap.size ≤ b) ∧ RowD eltL (fun b => ((fun b => w.heap.size ≤ b ∧ b ≠ g53) b ∧ ¬ Ck b ∧ (Value.slice x.2.1 x.1 x.2.2).ownBlock ≠ some b) ∧ b < w60.heap.size) wz 41 x.2.1 x.2.2 x.1 (clRn (cl.take x.1) []).1 | [_, _, _, z3] => ∃ C3 ra2 rc2 Z, z3 = .slice ra2 (x.1 + 1) rc2 ∧ NmAt wz g9 g25 (T.rn (lget cl x.1).r (T.rn (lget cl x.1).l (clRn (cl.take x.1) []).2).2).2 C3 ∧ (∀ b, C3 b → C2 b ∨ w80.heap.size ≤ b) ∧ RowD eltL Z wz 41 ra2 rc2 (x.1 + 1) ((clRn (cl.take x.1) []).1 ++ [(Li.rn (lget cl x.1) (clRn (cl.take x.1) []).2).1]) ∧ (∀ b, Z b → ((fun b => w.heap.size ≤ b ∧ b ≠ g53) b ∧ ¬ Ck b ∧ b < w60.heap.size) ∨ (w60.heap.size ≤ b ∧ ¬ C3 b)) ∧ (∀ b, (Value.slice ra2 (x.1 + 1) rc2).ownBlock = some b → (Value.slice x.2.1 x.1 x.2.2).ownBlock = some b ∨ (w60.heap.size ≤ b ∧ ¬ C3 b)) | [_, _, _, _, z4] => ∃ C3 ra2 rc2 Z, z4 = .slice ra2 (x.1 + 1) rc2 ∧ NmAt wz g9 g25 (T.rn (lget cl x.1).r (T.rn (lget cl x.1).l (clRn (cl.take x.1) []).2).2).2 C3 ∧ (∀ b, C3 b → C2 b ∨ w80.heap.size ≤ b) ∧ RowD eltL Z wz 41 ra2 rc2 (x.1 + 1) ((clRn (cl.take x.1) []).1 ++ [(Li.rn (lget cl x.1) (clRn (cl.take x.1) []).2).1]) ∧ (∀ b, Z b → ((fun b => w.heap.size ≤ b ∧ b ≠ g53) b ∧ ¬ Ck b ∧ b < w60.heap.size) ∨ (w60.heap.size ≤ b ∧ ¬ C3 b)) ∧ (∀ b, (Value.slice ra2 (x.1 + 1) rc2).ownBlock = some b → (Value.slice x.2.1 x.1 x.2.2).ownBlock = some b ∨ (w60.heap.size ≤ b ∧ ¬ C3 b)) | _ => False) vals wa → (fun vals wz => match vals with | [] => NmAt wz g9 g25 (T.rn (lget cl x.1).l (clRn (cl.take x.1) []).2).2 C2 ∧ RowD eltL (fun b => ((fun b => w.heap.size ≤ b ∧ b ≠ g53) b ∧ ¬ Ck b ∧ (Value.slice x.2.1 x.1 x.2.2).ownBlock ≠ some b) ∧ b < w60.heap.size) wz 41 x.2.1 x.2.2 x.1 (clRn (cl.take x.1) []).1 ∧ InT (fun b => ((w60.heap.size ≤ b ∧ ¬ C2 b) ∧ b < w80.heap.size)) wz (T.rn (lget cl x.1).l (clRn (cl.take x.1) []).2).1 (.agg #[.int .i64 ((T.rn (lget cl x.1).l (clRn (cl.take x.1) []).2).1.f), .slice la ((T.rn (lget cl x.1).l (clRn (cl.take x.1) []).2).1.args.length) lc]) | [z0] => ∃ C3, NmAt wz g9 g25 (T.rn (lget cl x.1).r (T.rn (lget cl x.1).l (clRn (cl.take x.1) []).2).2).2 C3 ∧ (∀ b, C3 b → C2 b ∨ w80.heap.size ≤ b) ∧ InT (fun b => w80.heap.size ≤ b ∧ ¬ C3 b) wz (T.rn (lget cl x.1).r (T.rn (lget cl x.1).l (clRn (cl.take x.1) []).2).2).1 z0 ∧ InT (fun b => ((w60.heap.size ≤ b ∧ ¬ C2 b) ∧ b < w80.heap.size)) wz (T.rn (lget cl x.1).l (clRn (cl.take x.1) []).2).1 (.agg #[.int .i64 ((T.rn (lget cl x.1).l (clRn (cl.take x.1) []).2).1.f), .slice la ((T.rn (lget cl x.1).l (clRn (cl.take x.1) []).2).1.args.length) lc]) ∧ RowD eltL (fun b => ((fun b => w.heap.size ≤ b ∧ b ≠ g53) b ∧ ¬ Ck b ∧ (Value.slice x.2.1 x.1 x.2.2).ownBlock ≠ some b) ∧ b < w60.heap.size) wz 41 x.2.1 x.2.2 x.1 (clRn (cl.take x.1) []).1 | [_, z1] => ∃ C3, NmAt wz g9 g25 (T.rn (lget cl x.1).r (T.rn (lget cl x.1).l (clRn (cl.take x.1) []).2).2).2 C3 ∧ (∀ b, C3 b → C2 b ∨ w80.heap.size ≤ b) ∧ LiIn (fun b => ((w60.heap.size ≤ b ∧ ¬ C2 b) ∧ b < w80.heap.size) ∨ (w80.heap.size ≤ b ∧ ¬ C3 b)) wz (Li.rn (lget cl x.1) (clRn (cl.take x.1) []).2).1 z1 ∧ RowD eltL (fun b => ((fun b => w.heap.size ≤ b ∧ b ≠ g53) b ∧ ¬ Ck b ∧ (Value.slice x.2.1 x.1 x.2.2).ownBlock ≠ some b) ∧ b < w60.heap.size) wz 41 x.2.1 x.2.2 x.1 (clRn (cl.take x.1) []).1 | [_, _, z2] => ∃ C3 g1 cs, z2 = .slice (some ⟨g1, 0, none⟩) 1 1 ∧ Blk wz g1 41 (List.toArray cs) ∧ eltL.In (fun b => ((w60.heap.size ≤ b ∧ ¬ C2 b) ∧ b < w80.heap.size) ∨ (w80.heap.size ≤ b ∧ ¬ C3 b)) wz (Li.rn (lget cl x.1) (clRn (cl.take x.1) []).2).1 cs ∧ NmAt wz g9 g25 (T.rn (lget cl x.1).r (T.rn (lget cl x.1).l (clRn (cl.take x.1) []).2).2).2 C3 ∧ (∀ b, C3 b → C2 b ∨ w80.heap.size ≤ b) ∧ RowD eltL (fun b => ((fun b => w.heap.size ≤ b ∧ b ≠ g53) b ∧ ¬ Ck b ∧ (Value.slice x.2.1 x.1 x.2.2).ownBlock ≠ some b) ∧ b < w60.heap.size) wz 41 x.2.1 x.2.2 x.1 (clRn (cl.take x.1) []).1 | [_, _, _, z3] => ∃ C3 ra2 rc2 Z, z3 = .slice ra2 (x.1 + 1) rc2 ∧ NmAt wz g9 g25 (T.rn (lget cl x.1).r (T.rn (lget cl x.1).l (clRn (cl.take x.1) []).2).2).2 C3 ∧ (∀ b, C3 b → C2 b ∨ w80.heap.size ≤ b) ∧ RowD eltL Z wz 41 ra2 rc2 (x.1 + 1) ((clRn (cl.take x.1) []).1 ++ [(Li.rn (lget cl x.1) (clRn (cl.take x.1) []).2).1]) ∧ (∀ b, Z b → ((fun b => w.heap.size ≤ b ∧ b ≠ g53) b ∧ ¬ Ck b ∧ b < w60.heap.size) ∨ (w60.heap.size ≤ b ∧ ¬ C3 b)) ∧ (∀ b, (Value.slice ra2 (x.1 + 1) rc2).ownBlock = some b → (Value.slice x.2.1 x.1 x.2.2).ownBlock = some b ∨ (w60.heap.size ≤ b ∧ ¬ C3 b)) | [_, _, _, _, z4] => ∃ C3 ra2 rc2 Z, z4 = .slice ra2 (x.1 + 1) rc2 ∧ NmAt wz g9 g25 (T.rn (lget cl x.1).r (T.rn (lget cl x.1).l (clRn (cl.take x.1) []).2).2).2 C3 ∧ (∀ b, C3 b → C2 b ∨ w80.heap.size ≤ b) ∧ RowD eltL Z wz 41 ra2 rc2 (x.1 + 1) ((clRn (cl.take x.1) []).1 ++ [(Li.rn (lget cl x.1) (clRn (cl.take x.1) []).2).1]) ∧ (∀ b, Z b → ((fun b => w.heap.size ≤ b ∧ b ≠ g53) b ∧ ¬ Ck b ∧ b < w60.heap.size) ∨ (w60.heap.size ≤ b ∧ ¬ C3 b)) ∧ (∀ b, (Value.slice ra2 (x.1 + 1) rc2).ownBlock = some b → (Value.slice x.2.1 x.1 x.2.2).ownBlock = some b ∨ (w60.heap.size ≤ b ∧ ¬ C3 b)) | _ => False) vals wb := by
        intro vals wa wb hb h
        match vals, h with
        | [], h => exact ⟨h.1.below hb, h.2.1.below hb, h.2.2.below hb⟩
        | [z0], h =>
          obtain ⟨C3, k1, k2, k3, k4, k5⟩ := h
          exact ⟨C3, k1.below hb, k2, k3.below hb, k4.below hb, k5.below hb⟩
        | [_, z1], h =>
          obtain ⟨C3, k1, k2, k3, k4⟩ := h
          exact ⟨C3, k1.below hb, k2, k3.keep (fun p x _ hx => bkeeps hb p x hx), k4.below hb⟩
        | [_, _, z2], h =>
          obtain ⟨C3, g1, cs, e, k0, k3, k1, k2, k4⟩ := h
          exact ⟨C3, g1, cs, e, k0.below hb, Elt.below (E := eltL) k3 hb, k1.below hb, k2, k4.below hb⟩
        | [_, _, _, z3], h =>
          obtain ⟨C3, ra2, rc2, Z, e, k1, k2, k3, k4, k5⟩ := h
          exact ⟨C3, ra2, rc2, Z, e, k1.below hb, k2, k3.below hb, k4, k5⟩
        | [_, _, _, _, z4], h =>
          obtain ⟨C3, ra2, rc2, Z, e, k1, k2, k3, k4, k5⟩ := h
          exact ⟨C3, ra2, rc2, Z, e, k1.below hb, k2, k3.below hb, k4, k5⟩
      refine WC.seqV (S := ((fun b => C2 b ∨ (Value.slice x.2.1 x.1 x.2.2).ownBlock = some b))) [(true, .val (.slice x.2.1 x.1 x.2.2)), (true, .val (.pointer (some ⟨g53, 0, none⟩))), (true, .val (.bool ((lget cl x.1).neg))), (true, .val (.agg #[.int .i64 ((T.rn (lget cl x.1).l (clRn (cl.take x.1) []).2).1.f), .slice la ((T.rn (lget cl x.1).l (clRn (cl.take x.1) []).2).1.args.length) lc])), (true, .val (.pointer (some ⟨g53, 3, none⟩))), (true, .val (.agg #[.int .i64 ((lget cl x.1).r.f), .slice ((A48 x.1)) ((lget cl x.1).r.args.length) ((C49 x.1))])), (true, .val (.func (Fn.func 47) #[] #[.pointer (some ⟨g9, 0, none⟩), .pointer (some ⟨g25, 0, none⟩)])), (true, .val undef), (true, .val undef), (true, .val undef), (true, .val undef), (true, .val undef)] [(0, .slice a cl.length c), (2, .slice none 0 0), (3, .slice none 0 0), (4, .pointer (some ⟨g9, 0, none⟩)), (5, .pointer (some ⟨g25, 0, none⟩)), (6, .func (Fn.func 47) #[] #[.pointer (some ⟨g9, 0, none⟩), .pointer (some ⟨g25, 0, none⟩)]), (9, .pointer (some ⟨g53, 0, none⟩)), (10, .pointer (some ⟨g72, 0, none⟩)), (13, .slice a cl.length c), (14, .int .i64 (((cl.length : Nat) : Int))), (15, .int .i64 (((x.1 : Nat) : Int))), (16, .bool ((decide ((((x.1 : Nat) : Int) : Int) < (((cl.length : Nat) : Int) : Int)))))] [7, 8, 9, 10, 11] [none, none, none, none, none] (fun vals wz => match vals with | [] => NmAt wz g9 g25 (T.rn (lget cl x.1).l (clRn (cl.take x.1) []).2).2 C2 ∧ RowD eltL (fun b => ((fun b => w.heap.size ≤ b ∧ b ≠ g53) b ∧ ¬ Ck b ∧ (Value.slice x.2.1 x.1 x.2.2).ownBlock ≠ some b) ∧ b < w60.heap.size) wz 41 x.2.1 x.2.2 x.1 (clRn (cl.take x.1) []).1 ∧ InT (fun b => ((w60.heap.size ≤ b ∧ ¬ C2 b) ∧ b < w80.heap.size)) wz (T.rn (lget cl x.1).l (clRn (cl.take x.1) []).2).1 (.agg #[.int .i64 ((T.rn (lget cl x.1).l (clRn (cl.take x.1) []).2).1.f), .slice la ((T.rn (lget cl x.1).l (clRn (cl.take x.1) []).2).1.args.length) lc]) | [z0] => ∃ C3, NmAt wz g9 g25 (T.rn (lget cl x.1).r (T.rn (lget cl x.1).l (clRn (cl.take x.1) []).2).2).2 C3 ∧ (∀ b, C3 b → C2 b ∨ w80.heap.size ≤ b) ∧ InT (fun b => w80.heap.size ≤ b ∧ ¬ C3 b) wz (T.rn (lget cl x.1).r (T.rn (lget cl x.1).l (clRn (cl.take x.1) []).2).2).1 z0 ∧ InT (fun b => ((w60.heap.size ≤ b ∧ ¬ C2 b) ∧ b < w80.heap.size)) wz (T.rn (lget cl x.1).l (clRn (cl.take x.1) []).2).1 (.agg #[.int .i64 ((T.rn (lget cl x.1).l (clRn (cl.take x.1) []).2).1.f), .slice la ((T.rn (lget cl x.1).l (clRn (cl.take x.1) []).2).1.args.length) lc]) ∧ RowD eltL (fun b => ((fun b => w.heap.size ≤ b ∧ b ≠ g53) b ∧ ¬ Ck b ∧ (Value.slice x.2.1 x.1 x.2.2).ownBlock ≠ some b) ∧ b < w60.heap.size) wz 41 x.2.1 x.2.2 x.1 (clRn (cl.take x.1) []).1 | [_, z1] => ∃ C3, NmAt wz g9 g25 (T.rn (lget cl x.1).r (T.rn (lget cl x.1).l (clRn (cl.take x.1) []).2).2).2 C3 ∧ (∀ b, C3 b → C2 b ∨ w80.heap.size ≤ b) ∧ LiIn (fun b => ((w60.heap.size ≤ b ∧ ¬ C2 b) ∧ b < w80.heap.size) ∨ (w80.heap.size ≤ b ∧ ¬ C3 b)) wz (Li.rn (lget cl x.1) (clRn (cl.take x.1) []).2).1 z1 ∧ RowD eltL (fun b => ((fun b => w.heap.size ≤ b ∧ b ≠ g53) b ∧ ¬ Ck b ∧ (Value.slice x.2.1 x.1 x.2.2).ownBlock ≠ some b) ∧ b < w60.heap.size) wz 41 x.2.1 x.2.2 x.1 (clRn (cl.take x.1) []).1 | [_, _, z2] => ∃ C3 g1 cs, z2 = .slice (some ⟨g1, 0, none⟩) 1 1 ∧ Blk wz g1 41 (List.toArray cs) ∧ eltL.In (fun b => ((w60.heap.size ≤ b ∧ ¬ C2 b) ∧ b < w80.heap.size) ∨ (w80.heap.size ≤ b ∧ ¬ C3 b)) wz (Li.rn (lget cl x.1) (clRn (cl.take x.1) []).2).1 cs ∧ NmAt wz g9 g25 (T.rn (lget cl x.1).r (T.rn (lget cl x.1).l (clRn (cl.take x.1) []).2).2).2 C3 ∧ (∀ b, C3 b → C2 b ∨ w80.heap.size ≤ b) ∧ RowD eltL (fun b => ((fun b => w.heap.size ≤ b ∧ b ≠ g53) b ∧ ¬ Ck b ∧ (Value.slice x.2.1 x.1 x.2.2).ownBlock ≠ some b) ∧ b < w60.heap.size) wz 41 x.2.1 x.2.2 x.1 (clRn (cl.take x.1) []).1 | [_, _, _, z3] => ∃ C3 ra2 rc2 Z, z3 = .slice ra2 (x.1 + 1) rc2 ∧ NmAt wz g9 g25 (T.rn (lget cl x.1).r (T.rn (lget cl x.1).l (clRn (cl.take x.1) []).2).2).2 C3 ∧ (∀ b, C3 b → C2 b ∨ w80.heap.size ≤ b) ∧ RowD eltL Z wz 41 ra2 rc2 (x.1 + 1) ((clRn (cl.take x.1) []).1 ++ [(Li.rn (lget cl x.1) (clRn (cl.take x.1) []).2).1]) ∧ (∀ b, Z b → ((fun b => w.heap.size ≤ b ∧ b ≠ g53) b ∧ ¬ Ck b ∧ b < w60.heap.size) ∨ (w60.heap.size ≤ b ∧ ¬ C3 b)) ∧ (∀ b, (Value.slice ra2 (x.1 + 1) rc2).ownBlock = some b → (Value.slice x.2.1 x.1 x.2.2).ownBlock = some b ∨ (w60.heap.size ≤ b ∧ ¬ C3 b)) | [_, _, _, _, z4] => ∃ C3 ra2 rc2 Z, z4 = .slice ra2 (x.1 + 1) rc2 ∧ NmAt wz g9 g25 (T.rn (lget cl x.1).r (T.rn (lget cl x.1).l (clRn (cl.take x.1) []).2).2).2 C3 ∧ (∀ b, C3 b → C2 b ∨ w80.heap.size ≤ b) ∧ RowD eltL Z wz 41 ra2 rc2 (x.1 + 1) ((clRn (cl.take x.1) []).1 ++ [(Li.rn (lget cl x.1) (clRn (cl.take x.1) []).2).1]) ∧ (∀ b, Z b → ((fun b => w.heap.size ≤ b ∧ b ≠ g53) b ∧ ¬ Ck b ∧ b < w60.heap.size) ∨ (w60.heap.size ≤ b ∧ ¬ C3 b)) ∧ (∀ b, (Value.slice ra2 (x.1 + 1) rc2).ownBlock = some b → (Value.slice x.2.1 x.1 x.2.2).ownBlock = some b ∨ (w60.heap.size ≤ b ∧ ¬ C3 b)) | _ => False) hGV9 (by decide) ⟨rfl, rfl, rfl, rfl, rfl, rfl, rfl, rfl, rfl, rfl, rfl, rfl, trivial⟩ (by kernel_rfl) (by kernel_rfl) (by kernel_rfl) (by kernel_rfl) (⟨ho89, ho90, hL9⟩) ?_ ?_
      · refine ⟨.inl ⟨rfl, true, .none rfl, (fun gg b h => by cases h), fun h w => optUndef h, fun zβ za zw zc => ?_⟩, ?_⟩
        · exact wp_move rfl ((show za.eval (.tmp 7) = za.tmps.getD 7 undef from rfl).trans (zc.old 7 _ rfl (by kernel_rfl))) ⟨_, rfl, Below.refl _ _, optDef zβ rfl⟩
        refine ⟨.inl ⟨rfl, true, .none rfl, (fun gg b h => by cases h), fun h w => optUndef h, fun zβ za zw zc => ?_⟩, ?_⟩
        · exact fld_41_0 rfl (zc.kn.ev rfl) ⟨_, rfl, Below.refl _ _, optDef zβ rfl⟩
        refine ⟨.inl ⟨rfl, true, .none rfl, (fun gg b h => by cases h), fun h w => optUndef h, fun zβ za zw zc => ?_⟩, ?_⟩
        · exact ld_4 rfl ((show za.eval (.tmp 24) = za.tmps.getD 24 undef from rfl).trans (optSVal (zc.dep 1 24 (by kernel_rfl) (by decide)) rfl rfl)) (chg_cell zc.chg (by first | assumption | ((try dsimp only at *); omega)) ((hB88.cell 0).trans rfl)) ⟨_, rfl, Below.refl _ _, optDef zβ rfl⟩
        refine ⟨.inl ⟨rfl, true, .none rfl, (fun gg b h => by cases h), fun h w => optUndef h, fun zβ za zw zc => ?_⟩, ?_⟩
        · exact ld_24 rfl (zc.kn.ev rfl) (chg_cell zc.chg (by first | assumption | ((try dsimp only at *); omega)) ((hB82.cell 0).trans rfl)) (chg_cell zc.chg (by first | assumption | ((try dsimp only at *); omega)) ((hB82.cell 1).trans rfl)) ⟨_, rfl, Below.refl _ _, optDef zβ rfl⟩
        refine ⟨.inl ⟨rfl, true, .none rfl, (fun gg b h => by cases h), fun h w => optUndef h, fun zβ za zw zc => ?_⟩, ?_⟩
        · exact fld_41_2 rfl (zc.kn.ev rfl) ⟨_, rfl, Below.refl _ _, optDef zβ rfl⟩
        refine ⟨.inl ⟨rfl, true, .none rfl, (fun gg b h => by cases h), fun h w => optUndef h, fun zβ za zw zc => ?_⟩, ?_⟩
        · exact ld_24 rfl ((show za.eval (.tmp 27) = za.tmps.getD 27 undef from rfl).trans (optSVal (zc.dep 4 27 (by kernel_rfl) (by decide)) rfl rfl)) (chg_cell zc.chg (by first | assumption | ((try dsimp only at *); omega)) ((hB88.cell 3).trans rfl)) (chg_cell zc.chg (by first | assumption | ((try dsimp only at *); omega)) ((hB88.cell 4).trans rfl)) ⟨_, rfl, Below.refl _ _, optDef zβ rfl⟩
        refine ⟨.inl ⟨rfl, true, .none rfl, (fun gg b h => by cases h), fun h w => optUndef h, fun zβ za zw zc => ?_⟩, ?_⟩
        · exact wp_move rfl (zc.kn.ev rfl) ⟨_, rfl, Below.refl _ _, optDef zβ rfl⟩
        refine ⟨.inr ⟨0, rfl, by kernel_rfl, true, .none rfl, (fun gg b h => by cases h), (fun h => (nomatch h)), fun zβ za zw zvals zc => ?_⟩, ?_⟩
        · obtain rfl := vlen0 zc.len
          have zn := zc.now
          exact wp_call (by kernel_rfl) rfl (hv2 ((show za.eval (.tmp 28) = za.tmps.getD 28 undef from rfl).trans (optSVal (zc.dep 5 28 (by kernel_rfl) (by decide)) rfl rfl)) ((show za.eval (.tmp 29) = za.tmps.getD 29 undef from rfl).trans (optSVal (zc.dep 6 29 (by kernel_rfl) (by decide)) rfl rfl))) (rn_any (lget cl x.1).r g9 g25 (T.rn (lget cl x.1).l (clRn (cl.take x.1) []).2).2 C2 (fun b => b < w.heap.size) _ _ zn.1 (hR9.chg zc.chg hnA9) (fun b q q2 => hnA9 b q (.inl q2)) hpr (by omega)) (fun v w' h => by obtain ⟨⟨C3, k1, k2, k3⟩, k4⟩ := h; exact ⟨v, rfl, k4.mono (fun b q => .inl q), ⟨C3, k1, fun b q => (k2 b q).imp id (fun q => Nat.le_trans zc.chg.size q), k3.mono (fun b q _ => ⟨Nat.le_trans zc.chg.size q.1, q.2⟩), zn.2.2.chg k4 (fun b q => q.1.2), zn.2.1.chg k4 (fun b q q2 => by rcases hc2 b q2 with z | z; exact (hk4 b q).2 z; (have z2 := hkl b q; omega)) (fun b q q2 => by rcases hc2 b q2 with z | z; exact q.1.2.1 z; omega)⟩, cvNo⟩)
        refine ⟨.inr ⟨1, rfl, by kernel_rfl, true, .none rfl, (fun gg b h => by cases h), (fun h => (nomatch h)), fun zβ za zw zvals zc => ?_⟩, ?_⟩
        · obtain ⟨z0, rfl⟩ := vlen1 zc.len
          have zn := zc.now
          obtain ⟨C3, k1, k2, k3, k4, k5⟩ := zn
          have e0 : z0 = za.tmps.getD 30 undef := Option.some.inj (zc.val 0 7 30 rfl (by kernel_rfl))
          obtain ⟨_, fa, fc, ef, _⟩ := k3.form
          have k3b := k3
          rw [ef] at k3b
          exact build_41_0_1_2 rfl ((show za.eval (.tmp 25) = za.tmps.getD 25 undef from rfl).trans (optSVal (zc.dep 2 25 (by kernel_rfl) (by decide)) rfl rfl)) ((show za.eval (.tmp 26) = za.tmps.getD 26 undef from rfl).trans (optSVal (zc.dep 3 26 (by kernel_rfl) (by decide)) rfl rfl)) ((show za.eval (.tmp 30) = za.tmps.getD 30 undef from rfl).trans (e0.symm.trans ef)) ⟨_, rfl, .ofBelow (Below.refl _ _), ⟨C3, k1, k2, ⟨_, _, _, _, rfl, k4.mono (fun b q _ => .inl q), k3b.mono (fun b q _ => .inr q)⟩, k5⟩, cvNo⟩
        refine ⟨.inr ⟨2, rfl, by kernel_rfl, true, .none rfl, (fun gg b h => by cases h), (fun h => (nomatch h)), fun zβ za zw zvals zc => ?_⟩, ?_⟩
        · obtain ⟨z0, z1, rfl⟩ := vlen2 zc.len
          have zn := zc.now
          obtain ⟨C3, k1, k2, k3, k4⟩ := zn
          have e1 : z1 = za.tmps.getD 31 undef := Option.some.inj (zc.val 1 8 31 rfl (by kernel_rfl))
          obtain ⟨b1, b2, c1, c2, ef⟩ := LiIn.parts k3
          have k3b := k3
          rw [ef] at k3b
          obtain ⟨q1, q2⟩ := LiIn.two k3b
          exact row_50_1 rfl ((show za.eval (.tmp 31) = za.tmps.getD 31 undef from rfl).trans (e1.symm.trans ef)) ⟨_, rfl, .ofBelow (balloc _ _), ⟨C3, _, _, rfl, Blk.new' rfl, ⟨_, _, _, _, rfl, q1.below (balloc _ _), q2.below (balloc _ _)⟩, k1.below (balloc _ _), k2, k4.below (balloc _ _)⟩, cvNo⟩
        refine ⟨.inr ⟨3, rfl, by kernel_rfl, true, .none rfl, (fun gg b h => by cases h), (fun h => (nomatch h)), fun zβ za zw zvals zc => ?_⟩, ?_⟩
        · obtain ⟨z0, z1, z2, rfl⟩ := vlen3 zc.len
          have zn := zc.now
          obtain ⟨C3, g1, cs, e, k0, k3, k1, k2, k4⟩ := zn
          have e2 : z2 = za.tmps.getD 32 undef := Option.some.inj (zc.val 2 9 32 rfl (by kernel_rfl))
          exact wp_appD (E := eltL) (S2 := (fun b => ((w60.heap.size ≤ b ∧ ¬ C2 b) ∧ b < w80.heap.size) ∨ (w80.heap.size ≤ b ∧ ¬ C3 b))) (size := 5) (bytes := 72) (z := .agg #[.bool false, .int .i64 0, .slice none 0 0, .int .i64 0, .slice none 0 0]) rfl Try.underlying50 (by kernel_rfl) rfl (by decide) rfl ((show za.eval (.tmp 23) = za.tmps.getD 23 undef from rfl).trans (optSVal (zc.dep 0 23 (by kernel_rfl) (by decide)) rfl rfl)) ((show za.eval (.tmp 32) = za.tmps.getD 32 undef from rfl).trans (e2.symm.trans e)) k4 k0 k3 (fun b q q2 => by have z := hkl b q2; (try dsimp only at q); omega) (by omega) (by omega) (fun ra rc w' h1 h2 h3 => ⟨_, rfl, h2.mono (fun b q => .inr q), ⟨C3, ra, rc, _, rfl, k1.chg h2 (fun b q q2 => by have z2 := hkl b q2; rcases k2 b q with z | z; (rcases hc2 b z with z3 | z3; exact (hk4 b q2).2 z3; omega); omega), k2, h1, fun b q => by
              rcases q.1 with q | q
              · exact .inl ⟨q.1.1, q.1.2.1, q.2⟩
              · refine .inr ?_
                rcases q with q | q
                · exact ⟨q.1.1, fun q3 => by rcases k2 b q3 with z | z; exact q.1.2 z; omega⟩
                · exact ⟨by omega, q.2⟩, fun b q => (h3 b q).imp id (fun q2 => ⟨by have z := zc.chg.size; omega, fun q3 => by have z := k1.clt b q3; omega⟩)⟩, cvNo⟩)
        refine ⟨.inr ⟨4, rfl, by kernel_rfl, true, .none rfl, (fun gg b h => by cases h), (fun h => (nomatch h)), fun zβ za zw zvals zc => ?_⟩, ?_⟩
        · obtain ⟨z0, z1, z2, z3, rfl⟩ := vlen4 zc.len
          have zn := zc.now
          obtain ⟨C3, ra2, rc2, Z, e, k1, k2, k3, k4, k5⟩ := zn
          have e3 : z3 = za.tmps.getD 33 undef := Option.some.inj (zc.val 3 10 33 rfl (by kernel_rfl))
          exact wp_assign rfl ((show za.eval (.tmp 33) = za.tmps.getD 33 undef from rfl).trans (e3.symm.trans e)) ⟨_, rfl, .ofBelow (Below.refl _ _), ⟨C3, ra2, rc2, Z, rfl, k1, k2, k3, k4, k5⟩, cvNo⟩
        exact trivial
      · intro za w94 zvals zh zl hG95 hc96 zu zw zk
        obtain ⟨z0, z1, z2, z3, z4, rfl⟩ := vlen5 zl
        obtain ⟨C9, ra9, rc9, Z9, e9, k91, k92, k93, k94, k95⟩ := hG95
        have zh := zh.cons (d := 7) (v := .slice ra9 (x.1 + 1) rc9) ((Option.some.inj (zw 4 11 7 rfl (by kernel_rfl))).symm.trans e9)
        have hst97 : ClSt (fun _ => False) (fun b => w.heap.size ≤ b ∧ b ≠ g53) g9 g25 (T.rn (lget cl x.1).r (T.rn (lget cl x.1).l (clRn (cl.take x.1) []).2).2).2 ((clRn (cl.take x.1) []).1 ++ [(Li.rn (lget cl x.1) (clRn (cl.take x.1) []).2).1]) ra9 rc9 (x.1 + 1) w94 := ClSt.join (w0 := w60) hk2 hk4 hkl (fun b q => by (try dsimp only); omega) k91 (fun b q => by rcases k92 b q with z | z; exact hc2 b z; exact .inr (by omega)) k93 k94 k95
        have hb98 := chg_below hb85 hc96 (fun b hb => (hnA9 b hb))
        clear zu zw zk
        refine (show WE _ [(0, .slice a cl.length c), (2, .slice none 0 0), (3, .slice none 0 0), (4, .pointer (some ⟨g9, 0, none⟩)), (5, .pointer (some ⟨g25, 0, none⟩)), (6, .func (Fn.func 47) #[] #[.pointer (some ⟨g9, 0, none⟩), .pointer (some ⟨g25, 0, none⟩)]), (7, .slice ra9 ((x.1 + 1)) rc9), (9, .pointer (some ⟨g53, 0, none⟩)), (10, .pointer (some ⟨g72, 0, none⟩)), (13, .slice a cl.length c), (14, .int .i64 (((cl.length : Nat) : Int))), (15, .int .i64 (((x.1 : Nat) : Int))), (16, .bool ((decide ((((x.1 : Nat) : Int) : Int) < (((cl.length : Nat) : Int) : Int)))))] w94 _ .normal from ?_) za (zh.sub ⟨rfl, rfl, rfl, rfl, rfl, rfl, rfl, rfl, rfl, rfl, rfl, rfl, rfl, trivial⟩)
        refine WE.blockNormal ?_
        refine WE.next ?_
        refine WC.region ?_
        refine WL.val (.int .i64 ((((x.1 + 1) : Nat) : Int))) rfl rfl rfl (fun za zC zh zk => addb_3 rfl (zh.ev rfl) (zh.ev rfl) (wrap_eq (by omega) (by omega) (by omega)) zk) ?_
        refine WL.val (.int .i64 ((((x.1 + 1) : Nat) : Int))) rfl rfl rfl (fun za zC zh zk => wp_move rfl (zh.ev rfl) zk) ?_
        refine WL.nil (WE.sub (K' := [(0, .slice a cl.length c), (2, .slice none 0 0), (3, .slice none 0 0), (4, .pointer (some ⟨g9, 0, none⟩)), (5, .pointer (some ⟨g25, 0, none⟩)), (6, .func (Fn.func 47) #[] #[.pointer (some ⟨g9, 0, none⟩), .pointer (some ⟨g25, 0, none⟩)]), (7, .slice ra9 ((x.1 + 1)) rc9), (9, .pointer (some ⟨g53, 0, none⟩)), (10, .pointer (some ⟨g72, 0, none⟩)), (13, .slice a cl.length c), (14, .int .i64 (((cl.length : Nat) : Int))), (15, .int .i64 ((((x.1 + 1) : Nat) : Int))), (16, .bool ((decide ((((x.1 : Nat) : Int) : Int) < (((cl.length : Nat) : Int) : Int)))))]) ⟨rfl, rfl, rfl, rfl, rfl, rfl, rfl, rfl, rfl, rfl, rfl, rfl, rfl, trivial⟩ ?_)
        refine WE.round ((x.1 + 1, ra9, rc9)) ⟨rfl, rfl, rfl, rfl, rfl, rfl, rfl, rfl, rfl, rfl, trivial⟩ ?_ ?_
        · exact ⟨by (try dsimp only); omega, hb98, (by dsimp only; rw [clRn_take (by omega)]; exact ClSt.mono hst97 (fun b q _ => by (try dsimp only at *); omega))⟩
        · (try dsimp only); omega
    · have h43 : ¬ ((((x.1 : Nat) : Int) : Int) < (((cl.length : Nat) : Int) : Int)) := by simpa using h43
      refine WC.exit ?_
      refine WE.thenExit ?_
      refine WE.thenExit ?_
      refine WE.blockIs rfl ?_
      refine WE.next ?_
      refine WC.seq ?_
      obtain ⟨D9, ⟨mb9, es9, cl9, a9, c9, hN9⟩, hC9, hR9, hO9⟩ := ho42
      rw [List.take_of_length_le (show cl.length ≤ x.1 by omega)] at hN9 hR9
      have hbl9 := nmB_len (clRn cl []).2 0
      have hnm9 := clRn_names cl []
      simp only [List.length_nil] at hnm9
      refine WC.region ?_
      refine WL.val (.slice a9 ((nmB (clRn cl []).2 0).length) c9) rfl rfl rfl (fun za zC zh zk => ld_26 rfl (zh.ev rfl) ((hN9.bs.cell 0).trans rfl) zk) ?_
      refine WL.call rfl rfl rfl (fun za zh zC => wp_call (by kernel_rfl) rfl (hv2 (zh.ev rfl) (zh.ev rfl))) (sortB_own (hN9.row.rowE) (by omega) cmpIs_norm) ?_
      rintro _ w99 ⟨ls, rfl, hps, hss, hrs, hcs⟩
      have hb100 := chg_below hb41 hcs (fun b hb => (fun h => by first | exact hN9.rows h | (have z := hC9 _ (hN9.crow _ h); rcases z with z | z; exact z.elim; (try dsimp only at *); omega)))
      have hB101 := chg_blk hN9.bs hcs (fun h => by first | exact hN9.rows h | (have z := hC9 _ (hN9.crow _ h); rcases z with z | z; exact z.elim; (try dsimp only at *); omega))
      refine WL.nil (WE.sub (K' := [(0, .slice a cl.length c), (2, .slice none 0 0), (3, .slice none 0 0), (4, .pointer (some ⟨g9, 0, none⟩)), (5, .pointer (some ⟨g25, 0, none⟩)), (6, .func (Fn.func 47) #[] #[.pointer (some ⟨g9, 0, none⟩), .pointer (some ⟨g25, 0, none⟩)]), (7, .slice x.2.1 x.1 x.2.2), (13, .slice a cl.length c), (14, .int .i64 (((cl.length : Nat) : Int))), (15, .int .i64 (((x.1 : Nat) : Int))), (16, .bool ((decide ((((x.1 : Nat) : Int) : Int) < (((cl.length : Nat) : Int) : Int)))))]) ⟨rfl, rfl, rfl, rfl, rfl, rfl, rfl, rfl, rfl, rfl, rfl, trivial⟩ ?_)
      refine WE.next ?_
      refine WC.seq ?_
      refine WC.opt [(true, .val (.slice x.2.1 x.1 x.2.2)), (true, .val (.slice a9 ((nmB (clRn cl []).2 0).length) c9)), (true, .val (.slice x.2.1 x.1 x.2.2)), (true, .val (.slice a9 ((nmB (clRn cl []).2 0).length) c9))] [(0, .slice a cl.length c), (4, .pointer (some ⟨g9, 0, none⟩)), (5, .pointer (some ⟨g25, 0, none⟩)), (6, .func (Fn.func 47) #[] #[.pointer (some ⟨g9, 0, none⟩), .pointer (some ⟨g25, 0, none⟩)]), (7, .slice x.2.1 x.1 x.2.2), (13, .slice a cl.length c), (14, .int .i64 (((cl.length : Nat) : Int))), (15, .int .i64 (((x.1 : Nat) : Int))), (16, .bool ((decide ((((x.1 : Nat) : Int) : Int) < (((cl.length : Nat) : Int) : Int)))))] ⟨rfl, rfl, rfl, rfl, rfl, rfl, rfl, rfl, rfl, trivial⟩ (by kernel_rfl) (by kernel_rfl) (by kernel_rfl) ?_ ?_
      · refine ⟨⟨true, .none rfl, fun h w => optUndef h, fun zβ za zw zc => ?_⟩, ?_⟩
        · exact wp_move rfl (zc.kn.ev rfl) ⟨_, rfl, Below.refl _ _, optDef zβ rfl⟩
        refine ⟨⟨true, .none rfl, fun h w => optUndef h, fun zβ za zw zc => ?_⟩, ?_⟩
        · exact ld_26 rfl (zc.kn.ev rfl) (bkeeps zc.below _ _ ((hB101.cell 0).trans rfl)) ⟨_, rfl, Below.refl _ _, optDef zβ rfl⟩
        refine ⟨⟨true, .none rfl, fun h w => optUndef h, fun zβ za zw zc => ?_⟩, ?_⟩
        · exact wp_assign rfl ((show za.eval (.tmp 37) = za.tmps.getD 37 undef from rfl).trans (optVal (zc.dep 0 37 (by kernel_rfl)) rfl rfl)) ⟨_, rfl, Below.refl _ _, optDef zβ rfl⟩
        refine ⟨⟨true, .none rfl, fun h w => optUndef h, fun zβ za zw zc => ?_⟩, ?_⟩
        · exact wp_assign rfl ((show za.eval (.tmp 38) = za.tmps.getD 38 undef from rfl).trans (optVal (zc.dep 1 38 (by kernel_rfl)) rfl rfl)) ⟨_, rfl, Below.refl _ _, optDef zβ rfl⟩
        exact trivial
      · intro za w102 zh hb103 zu
        have zh := zh.cons (d := 2) (v := .slice x.2.1 x.1 x.2.2) (optVal (zu 2 2 (by kernel_rfl)) rfl rfl)
        have zh := zh.cons (d := 3) (v := .slice a9 ((nmB (clRn cl []).2 0).length) c9) (optVal (zu 3 3 (by kernel_rfl)) rfl rfl)
        clear zu
        refine (show WE _ [(0, .slice a cl.length c), (2, .slice x.2.1 x.1 x.2.2), (3, .slice a9 ((nmB (clRn cl []).2 0).length) c9), (4, .pointer (some ⟨g9, 0, none⟩)), (5, .pointer (some ⟨g25, 0, none⟩)), (6, .func (Fn.func 47) #[] #[.pointer (some ⟨g9, 0, none⟩), .pointer (some ⟨g25, 0, none⟩)]), (7, .slice x.2.1 x.1 x.2.2), (13, .slice a cl.length c), (14, .int .i64 (((cl.length : Nat) : Int))), (15, .int .i64 (((x.1 : Nat) : Int))), (16, .bool ((decide ((((x.1 : Nat) : Int) : Int) < (((cl.length : Nat) : Int) : Int)))))] w102 _ .normal from ?_) za (zh.sub ⟨rfl, rfl, rfl, rfl, rfl, rfl, rfl, rfl, rfl, rfl, rfl, trivial⟩)
        refine WE.next ?_
        refine WC.ret ?_
        refine WE.ret2 rfl rfl rfl ?_
        have hb104 : Below w.heap.size w w102 := (bstep hb100 hb103)
        have hrs2 := hrs.inRow
        have hRl := hR9.chg hcs (fun b q e => (hO9 b q).2 (hN9.crow b e)) (fun b q e => q.2.1 (hN9.crow b e))
        have hri := hRl.inRow
        have hxl : x.1 = cl.length := by omega
        rw [hxl] at hri hRl
        rw [hxl, hrs2.2.1]
        exact ⟨_, rfl, ⟨_, _, _, _, ls, rfl, hri.1.below hb103, hri.2.1, hri.2.2, hps, hss, (hrs2.1.mono (by decide) (fun _ _ _ => trivial)).below hb103, by omega, hrs2.2.2.2⟩, hb104⟩

end Go.Proofs.Ytcmfjnadjddboaa
