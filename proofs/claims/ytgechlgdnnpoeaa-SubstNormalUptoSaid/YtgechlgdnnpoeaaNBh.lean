/- The comparison that Normal sorts by. -/
import Derived.Test.YtgechlgdnnpoeaaNBa
import Derived.Scope
import Derived.Test.YtgechlgdnnpoeaaNBg
import Derived.Test.YtgechlgdnnpoeaaNBb
import Derived.Test.YtgechlgdnnpoeaaProg
import Derived.Shelf.SlSortCmp.WholeK
import Derived.Shelf.SlSortCmp.NoneTotal
import Derived.Ground.SlsfProg
import Derived.Shelf.SlicesG.Cmp
import Derived.Ground.SlgcProg
import Derived.WalkKit

/- Scopes (functions with labels) through which the run goes without a goto. -/
namespace Go.Proofs.Ytgechlgdnnpoeaa
open Go.RowKit Go
set_option linter.unusedVariables false
set_option linter.unusedSimpArgs false
section
variable {P : Program} {n : Fr} {K : Known} {w : World} {Q : Exit → Act → World → Prop} {c : Code}
theorem WC.scope (hr : n.r = none) (h : WC P n K w c (Exit.noGoto Q)) : WC P n K w (.scope c) Q := fun a ha => by
  have z := h a ha
  rw [hr] at z ⊢
  exact wpIn_wide.2 (wp_scope_straight (wpIn_wide.1 z))
theorem WE.scopeNormal (h : WE n K w Q .normal) : WE n K w (Exit.noGoto Q) .normal := h
theorem WE.scopeRet (h : WE n K w Q .ret) : WE n K w (Exit.noGoto Q) .ret := h
theorem WE.scopeExit {i : Nat} (h : WE n K w Q (.exit i)) : WE n K w (Exit.noGoto Q) (.exit i) := h
end
end Go.Proofs.Ytgechlgdnnpoeaa

/- A term is named anew, by a closure that writes what was named. -/
namespace Go.Proofs.Ytgechlgdnnpoeaa
open Go.RowKit Go
set_option linter.unusedVariables false
set_option linter.unusedSimpArgs false

set_option linter.unnecessarySimpa false

set_option maxRecDepth 100000 in
theorem rn_any : ∀ t : T, RnSpec t := by
  refine T.ind (fun f l ih => ?_)
  intro gn gs ns C A w v h ht hA hz hn
  have hClt := h.clt
  obtain ⟨hf, pa0, pc0, rfl, hpc1, hpc2, _⟩ := ht.form
  rw [T.f_mk] at hf
  have hf' := hf
  unfold I64 at hf'
  unfold maxLen at hpc2
  have hz' := hz
  rw [T.size] at hz' hn
  have hlen := len_le_sizeL l
  have hnmt := nmTo_len ns (-1 - f)
  have ht0 := InT.mono (S' := fun b => A b ∧ b < w.heap.size) (fun b q z => ⟨q, z⟩) ht
  have hA0 : ∀ b, (A b ∧ b < w.heap.size) → ¬ ((C b ∧ b < w.heap.size) ∨ w.heap.size ≤ b) := fun b q q2 => q2.elim (fun q2 => hA b q.1 q2.1) (fun q2 => by omega)
  refine Calls.walk (l := [.agg #[.int .i64 f, .slice pa0 l.length pc0], .func (.func 54) #[] #[.pointer (some ⟨gn, 0, none⟩), .pointer (some ⟨gs, 0, none⟩)]]) Try.func51 rfl (by kernel_rfl) ?_
  refine WC.sub (K' := [(0, .agg #[.int .i64 f, .slice pa0 l.length pc0]), (1, .func (.func 54) #[] #[.pointer (some ⟨gn, 0, none⟩), .pointer (some ⟨gs, 0, none⟩)])]) ⟨rfl, rfl, trivial⟩ ?_
  refine WC.seq ?_
  refine WC.region ?_
  refine WL.step (post := NewBlk w 32 #[.int .i64 f, .slice pa0 l.length pc0]) rfl rfl rfl (fun za zC zh zk => box_32 rfl (zh.ev rfl) (zk _ _ (newBlk _ _ _))) ?_
  rintro _ w1 ⟨g2, rfl, hg3, hB4, hb5, hz6⟩
  have hl7 : w.heap.size ≤ g2 := by omega
  refine WL.step (post := NewBlk w1 32 #[.int .i64 0, .slice none 0 0]) rfl rfl rfl (fun za zC zh zk => alloc_32 rfl (zk _ _ (newBlk _ _ _))) ?_
  rintro _ w8 ⟨g9, rfl, hg10, hB11, hb12, hz13⟩
  have hl14 : g2 < g9 := by have z1 := hB4.lt; omega
  have hl15 : w.heap.size ≤ g9 := by have z2 := (hb5).size; omega
  refine WL.nil (WE.sub (K' := [(0, .agg #[.int .i64 f, .slice pa0 l.length pc0]), (1, .func (.func 54) #[] #[.pointer (some ⟨gn, 0, none⟩), .pointer (some ⟨gs, 0, none⟩)]), (2, .pointer (some ⟨g2, 0, none⟩)), (4, .pointer (some ⟨g9, 0, none⟩))]) ⟨rfl, rfl, rfl, rfl, trivial⟩ ?_)
  refine WE.next ?_
  refine WC.seq ?_
  refine WC.region ?_
  refine WL.val (.pointer (some ⟨g2, 0, none⟩)) rfl rfl rfl (fun za zC zh zk => fld_32_0 rfl (zh.ev rfl) zk) ?_
  have hB16 := hB4.below hb12
  refine WL.val (.int .i64 f) rfl rfl rfl (fun za zC zh zk => ld_3 rfl (zh.ev rfl) ((hB16.cell 0).trans rfl) zk) ?_
  refine WL.val (.agg #[.int .i64 f, .slice none 0 0]) rfl rfl rfl (fun za zC zh zk => build_32_0 rfl (zh.ev rfl) zk) ?_
  refine WL.step (post := NewBlk w8 32 #[.int .i64 0, .slice none 0 0]) rfl rfl rfl (fun za zC zh zk => alloc_32 rfl (zk _ _ (newBlk _ _ _))) ?_
  rintro _ w17 ⟨g18, rfl, hg19, hB20, hb21, hz22⟩
  have hl23 : g2 < g18 := by have z1 := hB16.lt; omega
  have hl24 : g9 < g18 := by have z1 := hB11.lt; omega
  have hb25 : Below w.heap.size w w8 := (bstep hb5 hb12)
  have hl26 : w.heap.size ≤ g18 := by have z2 := (hb25).size; omega
  refine WL.step (post := fun _ w' => Upd g18 w17 w' ∧ Blk w' g18 32 #[.int .i64 f, .slice none 0 0]) rfl rfl rfl (fun za zC zh zk => st_32 rfl (zh.ev rfl) (zh.ev rfl) rfl rfl hB20 (by first | decide | simp) (fun v => zk v _ ⟨(Upd.at_ _ _ _ _).trans (Upd.at_ _ _ _ _), (hB20.set_ 0 _).set_ 1 _⟩)) ?_
  rintro v30 w27 ⟨hu28, hB29⟩
  have hb31 : Below w.heap.size w w17 := (bstep hb25 hb21)
  have hb32 := upd_below hb31 hu28 (by omega)
  have hB33 := hB16.below hb21
  have hB34 := upd_blk hB33 hu28 (by omega)
  have hB35 := hB11.below hb21
  have hB36 := upd_blk hB35 hu28 (by omega)
  refine WL.nil (WE.sub (K' := [(0, .agg #[.int .i64 f, .slice pa0 l.length pc0]), (1, .func (.func 54) #[] #[.pointer (some ⟨gn, 0, none⟩), .pointer (some ⟨gs, 0, none⟩)]), (2, .pointer (some ⟨g2, 0, none⟩)), (4, .pointer (some ⟨g9, 0, none⟩)), (5, .pointer (some ⟨g18, 0, none⟩))]) ⟨rfl, rfl, rfl, rfl, rfl, trivial⟩ ?_)
  refine WE.next ?_
  refine WC.seq ?_
  refine WC.seq ?_
  refine WC.region ?_
  refine WL.val (.pointer (some ⟨g2, 0, none⟩)) rfl rfl rfl (fun za zC zh zk => fld_32_0 rfl (zh.ev rfl) zk) ?_
  refine WL.val (.int .i64 f) rfl rfl rfl (fun za zC zh zk => ld_3 rfl (zh.ev rfl) ((hB34.cell 0).trans rfl) zk) ?_
  refine WL.val (.bool ((decide ((f : Int) < (0 : Int))))) rfl rfl rfl (fun za zC zh zk => lss_3 rfl (zh.ev rfl) (zh.ev rfl) zk) ?_
  refine WL.nil (WE.sub (K' := [(0, .agg #[.int .i64 f, .slice pa0 l.length pc0]), (1, .func (.func 54) #[] #[.pointer (some ⟨gn, 0, none⟩), .pointer (some ⟨gs, 0, none⟩)]), (2, .pointer (some ⟨g2, 0, none⟩)), (4, .pointer (some ⟨g9, 0, none⟩)), (5, .pointer (some ⟨g18, 0, none⟩)), (13, .bool ((decide ((f : Int) < (0 : Int)))))]) ⟨rfl, rfl, rfl, rfl, rfl, rfl, trivial⟩ ?_)
  refine WE.next ?_
  refine WC.cond rfl (fun h37 => ?_) (fun h37 => ?_)
  · have h37 : (f : Int) < (0 : Int) := by simpa using h37
    refine WC.region ?_
    refine WL.val (.func (.func 54) #[] #[.pointer (some ⟨gn, 0, none⟩), .pointer (some ⟨gs, 0, none⟩)]) rfl rfl rfl (fun za zC zh zk => wp_move rfl (zh.ev rfl) zk) ?_
    refine WL.val (.pointer (some ⟨g2, 0, none⟩)) rfl rfl rfl (fun za zC zh zk => fld_32_0 rfl (zh.ev rfl) zk) ?_
    refine WL.val (.int .i64 f) rfl rfl rfl (fun za zC zh zk => ld_3 rfl (zh.ev rfl) ((hB34.cell 0).trans rfl) zk) ?_
    refine WL.val (.int .i64 ((-1 - f))) rfl rfl rfl (fun za zC zh zk => subb_3 rfl (zh.ev rfl) (zh.ev rfl) (wrap_eq rfl (by omega) (by omega)) zk) ?_
    have hl38 : g2 < w27.heap.size := hB34.lt
    have hl39 : w.heap.size ≤ g2 := by have z : w.heap.size ≤ w.heap.size := (Nat.le_refl _); omega
    have hl40 : g9 < w27.heap.size := hB36.lt
    have hl41 : w.heap.size ≤ g9 := by have z : w.heap.size ≤ w1.heap.size := hb5.size; omega
    have hl42 : g18 < w27.heap.size := hB29.lt
    have hl43 : w.heap.size ≤ g18 := by have z : w.heap.size ≤ w8.heap.size := hb25.size; omega
    refine WL.call rfl rfl rfl (fun za zh zC => wp_callv (by kernel_rfl) rfl (zh.ev rfl) (hv1 (zh.ev rfl))) (nto_any (-1 - f) _ (h.below hb32) (by unfold I64; omega) (by omega)) ?_
    rintro _ w44 ⟨⟨C1, rfl, hM1, hC1⟩, hc1⟩
    have hB45 := chg_blk hB34 hc1 (fun h => by have z := hClt _ h; (try dsimp only at *); omega)
    have hB46 := chg_blk hB36 hc1 (fun h => by have z := hClt _ h; (try dsimp only at *); omega)
    have hB47 := chg_blk hB29 hc1 (fun h => by have z := hClt _ h; (try dsimp only at *); omega)
    refine WL.val (.int .i64 ((-1 - (((nmTo ns (-1 - f)).1 : Nat) : Int)))) rfl rfl rfl (fun za zC zh zk => subb_3 rfl (zh.ev rfl) (zh.ev rfl) (wrap_eq rfl (by omega) (by omega)) zk) ?_
    refine WL.val (.pointer (some ⟨g18, 0, none⟩)) rfl rfl rfl (fun za zC zh zk => fld_32_0 rfl (zh.ev rfl) zk) ?_
    refine WL.step (post := fun _ w' => Upd g18 w44 w' ∧ Blk w' g18 32 #[.int .i64 ((-1 - (((nmTo ns (-1 - f)).1 : Nat) : Int))), .slice none 0 0]) rfl rfl rfl (fun za zC zh zk => st_3 rfl (zh.ev rfl) (zh.ev rfl) hB47 (by first | decide | simp) (fun v => zk v _ ⟨Upd.at_ _ _ _ _, hB47.set_ 0 _⟩)) ?_
    rintro v51 w48 ⟨hu49, hB50⟩
    have hB52 := upd_blk hB45 hu49 (by omega)
    have hB53 := upd_blk hB46 hu49 (by omega)
    refine WL.nil (WE.sub (K' := [(0, .agg #[.int .i64 f, .slice pa0 l.length pc0]), (1, .func (.func 54) #[] #[.pointer (some ⟨gn, 0, none⟩), .pointer (some ⟨gs, 0, none⟩)]), (2, .pointer (some ⟨g2, 0, none⟩)), (4, .pointer (some ⟨g9, 0, none⟩)), (5, .pointer (some ⟨g18, 0, none⟩)), (13, .bool ((decide ((f : Int) < (0 : Int)))))]) ⟨rfl, rfl, rfl, rfl, rfl, rfl, trivial⟩ ?_)
    refine WE.next ?_
    refine WC.seq ?_
    refine WC.seq ?_
    refine WC.region ?_
    refine WL.val (.pointer (some ⟨g2, 1, none⟩)) rfl rfl rfl (fun za zC zh zk => fld_32_1 rfl (zh.ev rfl) zk) ?_
    refine WL.val (.slice pa0 l.length pc0) rfl rfl rfl (fun za zC zh zk => ld_30 rfl (zh.ev rfl) ((hB52.cell 1).trans rfl) zk) ?_
    refine WL.val (.int .i64 (((l.length : Nat) : Int))) rfl rfl rfl (fun za zC zh zk => len_30 rfl (zh.ev rfl) zk) ?_
    refine WL.val (.int .i64 0) rfl rfl rfl (fun za zC zh zk => wp_move rfl (zh.ev rfl) zk) ?_
    refine WL.nil (WE.sub (K' := [(0, .agg #[.int .i64 f, .slice pa0 l.length pc0]), (1, .func (.func 54) #[] #[.pointer (some ⟨gn, 0, none⟩), .pointer (some ⟨gs, 0, none⟩)]), (2, .pointer (some ⟨g2, 0, none⟩)), (4, .pointer (some ⟨g9, 0, none⟩)), (5, .pointer (some ⟨g18, 0, none⟩)), (13, .bool ((decide ((f : Int) < (0 : Int))))), (22, .slice pa0 l.length pc0), (23, .int .i64 (((l.length : Nat) : Int))), (24, .int .i64 0)]) ⟨rfl, rfl, rfl, rfl, rfl, rfl, rfl, rfl, rfl, trivial⟩ ?_)
    refine WE.next ?_
    refine WC.block ?_
    have hl54 : g2 < w48.heap.size := hB52.lt
    have hl55 : w.heap.size ≤ g2 := by have z : w.heap.size ≤ w.heap.size := (Nat.le_refl _); omega
    have hl56 : g9 < w48.heap.size := hB53.lt
    have hl57 : w.heap.size ≤ g9 := by have z : w.heap.size ≤ w1.heap.size := hb5.size; omega
    have hl58 : g18 < w48.heap.size := hB50.lt
    have hl59 : w.heap.size ≤ g18 := by have z : w.heap.size ≤ w8.heap.size := hb25.size; omega
    have hs60 : Chg ((fun b => b = g18)) w44 w48 := (Chg.trans2 (Chg.refl ((fun b => b = g18)) _) (Chg.ofUpd (S := fun k => k = g18) hu49 rfl) (fun i h1 h2 => by first | exact h2 | exact .inl ⟨h2, h1⟩ | exact .inl h2 | exact .inr h2 | exact .inr (.inl h2) | exact .inr (.inr h2) | ((try dsimp only at *); omega)))
    have hwc : w.heap.size ≤ w27.heap.size := hb32.size
    have hMs := hM1.chg hs60 (fun b q e => by have z := hC1 b q; subst e; rcases z with z | z; (have z2 := hClt _ z; omega); omega)
    have hst0 : RnSt C (fun b => w.heap.size ≤ b ∧ b ≠ g2 ∧ b ≠ g9 ∧ b ≠ g18) gn gs (nmTo ns (-1 - f)).2 [] none 0 0 w48 := RnSt.start hMs (fun b q => (hC1 b q).imp id (fun q => by (try dsimp only); omega))
    have hs61 : Chg ((fun b => (C b ∧ b < w.heap.size) ∨ w.heap.size ≤ b)) w w48 := (Chg.trans2 (Chg.trans2 (Chg.trans2 (Chg.refl ((fun b => (C b ∧ b < w.heap.size) ∨ w.heap.size ≤ b)) _) (Chg.ofBelow (S := fun k => k < 0) hb32) (fun i h1 h2 => by first | exact h2 | exact .inl ⟨h2, h1⟩ | exact .inl h2 | exact .inr h2 | exact .inr (.inl h2) | exact .inr (.inr h2) | ((try dsimp only at *); omega))) hc1 (fun i h1 h2 => by first | exact h2 | exact .inl ⟨h2, h1⟩ | exact .inl h2 | exact .inr h2 | exact .inr (.inl h2) | exact .inr (.inr h2) | ((try dsimp only at *); omega))) (Chg.ofUpd (S := fun k => k = g18) hu49 rfl) (fun i h1 h2 => by first | exact h2 | exact .inl ⟨h2, h1⟩ | exact .inl h2 | exact .inr h2 | exact .inr (.inl h2) | exact .inr (.inr h2) | ((try dsimp only at *); omega)))
    have hcS : Chg (fun b => (C b ∧ b < w.heap.size) ∨ w.heap.size ≤ b) w w48 := hs61
    refine WC.loop (X := Nat × Option Addr × Nat) (fun x => l.length - x.1) (fun x => [(0, .agg #[.int .i64 f, .slice pa0 l.length pc0]), (1, .func (.func 54) #[] #[.pointer (some ⟨gn, 0, none⟩), .pointer (some ⟨gs, 0, none⟩)]), (2, .pointer (some ⟨g2, 0, none⟩)), (4, .pointer (some ⟨g9, 0, none⟩)), (5, .pointer (some ⟨g18, 0, none⟩)), (13, .bool ((decide ((f : Int) < (0 : Int))))), (22, .slice pa0 l.length pc0), (23, .int .i64 (((l.length : Nat) : Int))), (24, .int .i64 (((x.1 : Nat) : Int)))]) (fun x w62 => x.1 ≤ l.length ∧ Blk w62 g2 32 #[.int .i64 f, .slice pa0 l.length pc0] ∧ Blk w62 g9 32 #[.int .i64 0, .slice none 0 0] ∧ Blk w62 g18 32 #[.int .i64 ((-1 - (((nmTo ns (-1 - f)).1 : Nat) : Int))), .slice x.2.1 x.1 x.2.2] ∧ RnSt C (fun b => w.heap.size ≤ b ∧ b ≠ g2 ∧ b ≠ g9 ∧ b ≠ g18) gn gs (T.rnL (l.take x.1) (nmTo ns (-1 - f)).2).2 (T.rnL (l.take x.1) (nmTo ns (-1 - f)).2).1 x.2.1 x.2.2 x.1 (w62) ∧ Chg ((fun b => (C b ∧ b < w.heap.size) ∨ w.heap.size ≤ b)) w w62) ((0, none, 0)) ⟨rfl, rfl, rfl, rfl, rfl, rfl, rfl, rfl, rfl, trivial⟩ ?_ ?_
    · have hs63 : Chg ((fun b => (C b ∧ b < w.heap.size) ∨ w.heap.size ≤ b)) w w48 := (Chg.trans2 (Chg.trans2 (Chg.trans2 (Chg.refl ((fun b => (C b ∧ b < w.heap.size) ∨ w.heap.size ≤ b)) _) (Chg.ofBelow (S := fun k => k < 0) hb32) (fun i h1 h2 => by first | exact h2 | exact .inl ⟨h2, h1⟩ | exact .inl h2 | exact .inr h2 | exact .inr (.inl h2) | exact .inr (.inr h2) | ((try dsimp only at *); omega))) hc1 (fun i h1 h2 => by first | exact h2 | exact .inl ⟨h2, h1⟩ | exact .inl h2 | exact .inr h2 | exact .inr (.inl h2) | exact .inr (.inr h2) | ((try dsimp only at *); omega))) (Chg.ofUpd (S := fun k => k = g18) hu49 rfl) (fun i h1 h2 => by first | exact h2 | exact .inl ⟨h2, h1⟩ | exact .inl h2 | exact .inr h2 | exact .inr (.inl h2) | exact .inr (.inr h2) | ((try dsimp only at *); omega)))
      exact ⟨Nat.zero_le _, hB52, hB53, hB50, (by simpa [T.rnL] using hst0), hs63⟩
    · rintro x w62 ⟨hk, hB64, hB65, hB66, ho67, hc68⟩
      refine WC.seq ?_
      refine WC.region ?_
      refine WL.val (.bool ((decide ((((x.1 : Nat) : Int) : Int) < (((l.length : Nat) : Int) : Int))))) rfl rfl rfl (fun za zC zh zk => lss_3 rfl (zh.ev rfl) (zh.ev rfl) zk) ?_
      refine WL.nil (WE.sub (K' := [(0, .agg #[.int .i64 f, .slice pa0 l.length pc0]), (1, .func (.func 54) #[] #[.pointer (some ⟨gn, 0, none⟩), .pointer (some ⟨gs, 0, none⟩)]), (2, .pointer (some ⟨g2, 0, none⟩)), (4, .pointer (some ⟨g9, 0, none⟩)), (5, .pointer (some ⟨g18, 0, none⟩)), (13, .bool ((decide ((f : Int) < (0 : Int))))), (22, .slice pa0 l.length pc0), (23, .int .i64 (((l.length : Nat) : Int))), (24, .int .i64 (((x.1 : Nat) : Int))), (25, .bool ((decide ((((x.1 : Nat) : Int) : Int) < (((l.length : Nat) : Int) : Int)))))]) ⟨rfl, rfl, rfl, rfl, rfl, rfl, rfl, rfl, rfl, rfl, trivial⟩ ?_)
      refine WE.next ?_
      refine WC.seq ?_
      refine WC.cond rfl (fun h69 => ?_) (fun h69 => ?_)
      · have h69 : (((x.1 : Nat) : Int) : Int) < (((l.length : Nat) : Int) : Int) := by simpa using h69
        refine WC.skip ?_
        refine WE.next ?_
        refine WC.seq ?_
        refine WC.block ?_
        refine WC.seq ?_
        have hs70 : Chg ((fun b => (C b ∧ b < w.heap.size) ∨ w.heap.size ≤ b)) w w62 := (Chg.trans2 (Chg.refl ((fun b => (C b ∧ b < w.heap.size) ∨ w.heap.size ≤ b)) _) hc68 (fun i h1 h2 => by first | exact h2 | exact .inl ⟨h2, h1⟩ | exact .inl h2 | exact .inr h2 | exact .inr (.inl h2) | exact .inr (.inr h2) | ((try dsimp only at *); omega)))
        obtain ⟨pb, po, hpa, hpk⟩ := InTp.arg (b := 0) (o := 0) (ht0.chg hs70 hA0) x.1 (by simp; omega)
        obtain ⟨pka, pkc, hpk1, hpk2, hpk3⟩ := InTp.at9 hpk
        simp only [T.args_mk] at hpk1 hpk2 hpk3
        have hpz := T.size_le_sizeL (tget_mem (l := l) (k := x.1) (by omega))
        have hst1 := sizeL_take1 (l := l) (k := x.1) (by omega)
        have hst2 := T.sizeL_take_le l (x.1 + 1)
        have hrl := T.rnL_len' (l.take x.1) (nmTo ns (-1 - f)).2
        refine WC.region ?_
        refine WL.val (.pointer (some ⟨pb, po + x.1 * 2, none⟩)) rfl rfl rfl (fun za zC zh zk => ix_30 (k := x.1) rfl (zh.ev rfl) hpa (zh.ev rfl) (by first | omega | (simp; omega)) zk) ?_
        refine WL.val (.agg #[.int .i64 ((tget l x.1).f), .slice pka ((tget l x.1).args.length) pkc]) rfl rfl rfl (fun za zC zh zk => ld_32 rfl (zh.ev rfl) hpk1 hpk2 zk) ?_
        refine WL.step (post := NewBlk w62 32 #[.int .i64 0, .slice none 0 0]) rfl rfl rfl (fun za zC zh zk => alloc_32 rfl (zk _ _ (newBlk _ _ _))) ?_
        rintro _ w71 ⟨g72, rfl, hg73, hB74, hb75, hz76⟩
        have hl77 : g2 < g72 := by have z1 := hB64.lt; omega
        have hl78 : g9 < g72 := by have z1 := hB65.lt; omega
        have hl79 : g18 < g72 := by have z1 := hB66.lt; omega
        have hl80 : w62.heap.size ≤ g72 := by omega
        refine WL.step (post := fun _ w' => Upd g72 w71 w' ∧ Blk w' g72 32 #[.int .i64 ((tget l x.1).f), .slice pka ((tget l x.1).args.length) pkc]) rfl rfl rfl (fun za zC zh zk => st_32 rfl (zh.ev rfl) (zh.ev rfl) rfl rfl hB74 (by first | decide | simp) (fun v => zk v _ ⟨(Upd.at_ _ _ _ _).trans (Upd.at_ _ _ _ _), (hB74.set_ 0 _).set_ 1 _⟩)) ?_
        rintro v84 w81 ⟨hu82, hB83⟩
        have hb85 := upd_below hb75 hu82 (by omega)
        have hB86 := hB64.below hb75
        have hB87 := upd_blk hB86 hu82 (by omega)
        have hB88 := hB65.below hb75
        have hB89 := upd_blk hB88 hu82 (by omega)
        have hB90 := hB66.below hb75
        have hB91 := upd_blk hB90 hu82 (by omega)
        refine WL.nil (WE.sub (K' := [(0, .agg #[.int .i64 f, .slice pa0 l.length pc0]), (1, .func (.func 54) #[] #[.pointer (some ⟨gn, 0, none⟩), .pointer (some ⟨gs, 0, none⟩)]), (2, .pointer (some ⟨g2, 0, none⟩)), (4, .pointer (some ⟨g9, 0, none⟩)), (5, .pointer (some ⟨g18, 0, none⟩)), (7, .pointer (some ⟨g72, 0, none⟩)), (13, .bool ((decide ((f : Int) < (0 : Int))))), (22, .slice pa0 l.length pc0), (23, .int .i64 (((l.length : Nat) : Int))), (24, .int .i64 (((x.1 : Nat) : Int))), (25, .bool ((decide ((((x.1 : Nat) : Int) : Int) < (((l.length : Nat) : Int) : Int)))))]) ⟨rfl, rfl, rfl, rfl, rfl, rfl, rfl, rfl, rfl, rfl, rfl, trivial⟩ ?_)
        refine WE.next ?_
        have hl92 : g2 < w81.heap.size := hB87.lt
        have hl93 : g9 < w81.heap.size := hB89.lt
        have hl94 : g18 < w81.heap.size := hB91.lt
        have hl95 : g72 < w81.heap.size := hB83.lt
        have hl96 : w62.heap.size ≤ g72 := by have z : w62.heap.size ≤ w62.heap.size := (Nat.le_refl _); omega
        have hw0 : w.heap.size ≤ w81.heap.size := (Nat.le_trans hc68.size hb85.size)
        obtain ⟨Ck, hk1, hk2, hk30, hk4⟩ := (RnSt.mono (N' := (fun b => w.heap.size ≤ b ∧ b ≠ g2 ∧ b ≠ g9 ∧ b ≠ g18 ∧ b ≠ g72)) ho67 (fun b q z => by (try dsimp only at *); omega)).below hb85
        have hkl : ∀ b, (Value.slice x.2.1 x.1 x.2.2).ownBlock = some b → b < w81.heap.size := hk30.lt
        have hk3 := hk30.mono (S' := fun b => ((fun b => w.heap.size ≤ b ∧ b ≠ g2 ∧ b ≠ g9 ∧ b ≠ g18 ∧ b ≠ g72) b ∧ ¬ Ck b ∧ (Value.slice x.2.1 x.1 x.2.2).ownBlock ≠ some b) ∧ b < w81.heap.size) (fun b q z => ⟨q, z⟩) (fun b q => q.1.2.2)
        have hnC : ∀ b, Ck b → b < w.heap.size ∨ (fun b => w.heap.size ≤ b ∧ b ≠ g2 ∧ b ≠ g9 ∧ b ≠ g18 ∧ b ≠ g72) b := fun b q => (hk2 b q).imp (hClt b) id
        have hnA : ∀ b, (A b ∧ b < w.heap.size) → ¬ (fun b => Ck b ∨ (Value.slice x.2.1 x.1 x.2.2).ownBlock = some b ∨ b = g18) b := fun b q q2 => by
          rcases q2 with q2 | q2 | q2
          · rcases hk2 b q2 with z | z
            · exact hA b q.1 z
            · (try dsimp only at z); omega
          · have z := (hk4 b q2).1; (try dsimp only at z); omega
          · omega
        have hns97 : ¬ (fun b => Ck b ∨ (Value.slice x.2.1 x.1 x.2.2).ownBlock = some b ∨ b = g18) g2 := fun q => by
          rcases q with q | q | q
          · rcases hnC _ q with z | z
            · omega
            · (try dsimp only at z); omega
          · have z := (hk4 _ q).1; (try dsimp only at z); omega
          · omega
        have hns98 : ¬ (fun b => Ck b ∨ (Value.slice x.2.1 x.1 x.2.2).ownBlock = some b ∨ b = g18) g9 := fun q => by
          rcases q with q | q | q
          · rcases hnC _ q with z | z
            · omega
            · (try dsimp only at z); omega
          · have z := (hk4 _ q).1; (try dsimp only at z); omega
          · omega
        have hns99 : ¬ (fun b => Ck b ∨ (Value.slice x.2.1 x.1 x.2.2).ownBlock = some b ∨ b = g18) g72 := fun q => by
          rcases q with q | q | q
          · rcases hnC _ q with z | z
            · omega
            · (try dsimp only at z); omega
          · have z := (hk4 _ q).1; (try dsimp only at z); omega
          · omega
        have hn5 : ¬ Ck g18 := fun q => by rcases hnC _ q with z | z; omega; (try dsimp only at z); omega
        have ho5 : (Value.slice x.2.1 x.1 x.2.2).ownBlock ≠ some g18 := fun q => by have z := (hk4 _ q).1; (try dsimp only at z); omega
        have hcap7 := hk3.inRow
        have hcap8 := hcap7.2.2
        unfold maxLen at hcap8
        have hpk4 := InT.below hb85 hpk3
        have hGV9 : ∀ (vals : List Value) (wa wb : World), Below wa.heap.size wa wb → (fun vals wz => match vals with | [] => NmAt wz gn gs (T.rnL (l.take x.1) (nmTo ns (-1 - f)).2).2 Ck ∧ RowD eltT (fun b => ((fun b => w.heap.size ≤ b ∧ b ≠ g2 ∧ b ≠ g9 ∧ b ≠ g18 ∧ b ≠ g72) b ∧ ¬ Ck b ∧ (Value.slice x.2.1 x.1 x.2.2).ownBlock ≠ some b) ∧ b < w81.heap.size) wz 32 x.2.1 x.2.2 x.1 (T.rnL (l.take x.1) (nmTo ns (-1 - f)).2).1 ∧ Blk wz g18 32 #[.int .i64 ((-1 - (((nmTo ns (-1 - f)).1 : Nat) : Int))), .slice x.2.1 x.1 x.2.2] | [z0] => ∃ C2, NmAt wz gn gs (T.rn (tget l x.1) (T.rnL (l.take x.1) (nmTo ns (-1 - f)).2).2).2 C2 ∧ (∀ b, C2 b → Ck b ∨ w81.heap.size ≤ b) ∧ InT (fun b => w81.heap.size ≤ b ∧ ¬ C2 b) wz (T.rn (tget l x.1) (T.rnL (l.take x.1) (nmTo ns (-1 - f)).2).2).1 z0 ∧ RowD eltT (fun b => ((fun b => w.heap.size ≤ b ∧ b ≠ g2 ∧ b ≠ g9 ∧ b ≠ g18 ∧ b ≠ g72) b ∧ ¬ Ck b ∧ (Value.slice x.2.1 x.1 x.2.2).ownBlock ≠ some b) ∧ b < w81.heap.size) wz 32 x.2.1 x.2.2 x.1 (T.rnL (l.take x.1) (nmTo ns (-1 - f)).2).1 ∧ Blk wz g18 32 #[.int .i64 ((-1 - (((nmTo ns (-1 - f)).1 : Nat) : Int))), .slice x.2.1 x.1 x.2.2] | [_, z1] => ∃ C2 g1 cs, z1 = .slice (some ⟨g1, 0, none⟩) 1 1 ∧ Blk wz g1 32 (List.toArray cs) ∧ eltT.In (fun b => w81.heap.size ≤ b ∧ ¬ C2 b) wz (T.rn (tget l x.1) (T.rnL (l.take x.1) (nmTo ns (-1 - f)).2).2).1 cs ∧ NmAt wz gn gs (T.rn (tget l x.1) (T.rnL (l.take x.1) (nmTo ns (-1 - f)).2).2).2 C2 ∧ (∀ b, C2 b → Ck b ∨ w81.heap.size ≤ b) ∧ RowD eltT (fun b => ((fun b => w.heap.size ≤ b ∧ b ≠ g2 ∧ b ≠ g9 ∧ b ≠ g18 ∧ b ≠ g72) b ∧ ¬ Ck b ∧ (Value.slice x.2.1 x.1 x.2.2).ownBlock ≠ some b) ∧ b < w81.heap.size) wz 32 x.2.1 x.2.2 x.1 (T.rnL (l.take x.1) (nmTo ns (-1 - f)).2).1 ∧ Blk wz g18 32 #[.int .i64 ((-1 - (((nmTo ns (-1 - f)).1 : Nat) : Int))), .slice x.2.1 x.1 x.2.2] | [_, _, z2] => ∃ C2 ra2 rc2 Z, z2 = .slice ra2 (x.1 + 1) rc2 ∧ NmAt wz gn gs (T.rn (tget l x.1) (T.rnL (l.take x.1) (nmTo ns (-1 - f)).2).2).2 C2 ∧ (∀ b, C2 b → Ck b ∨ w81.heap.size ≤ b) ∧ RowD eltT Z wz 32 ra2 rc2 (x.1 + 1) ((T.rnL (l.take x.1) (nmTo ns (-1 - f)).2).1 ++ [(T.rn (tget l x.1) (T.rnL (l.take x.1) (nmTo ns (-1 - f)).2).2).1]) ∧ (∀ b, Z b → ((fun b => w.heap.size ≤ b ∧ b ≠ g2 ∧ b ≠ g9 ∧ b ≠ g18 ∧ b ≠ g72) b ∧ ¬ Ck b ∧ b < w81.heap.size) ∨ (w81.heap.size ≤ b ∧ ¬ C2 b)) ∧ (∀ b, (Value.slice ra2 (x.1 + 1) rc2).ownBlock = some b → (Value.slice x.2.1 x.1 x.2.2).ownBlock = some b ∨ (w81.heap.size ≤ b ∧ ¬ C2 b)) ∧ Blk wz g18 32 #[.int .i64 ((-1 - (((nmTo ns (-1 - f)).1 : Nat) : Int))), .slice x.2.1 x.1 x.2.2] | [_, _, z2, _] => ∃ C2 ra2 rc2 Z, z2 = .slice ra2 (x.1 + 1) rc2 ∧ NmAt wz gn gs (T.rn (tget l x.1) (T.rnL (l.take x.1) (nmTo ns (-1 - f)).2).2).2 C2 ∧ (∀ b, C2 b → Ck b ∨ w81.heap.size ≤ b) ∧ RowD eltT Z wz 32 ra2 rc2 (x.1 + 1) ((T.rnL (l.take x.1) (nmTo ns (-1 - f)).2).1 ++ [(T.rn (tget l x.1) (T.rnL (l.take x.1) (nmTo ns (-1 - f)).2).2).1]) ∧ (∀ b, Z b → ((fun b => w.heap.size ≤ b ∧ b ≠ g2 ∧ b ≠ g9 ∧ b ≠ g18 ∧ b ≠ g72) b ∧ ¬ Ck b ∧ b < w81.heap.size) ∨ (w81.heap.size ≤ b ∧ ¬ C2 b)) ∧ (∀ b, (Value.slice ra2 (x.1 + 1) rc2).ownBlock = some b → (Value.slice x.2.1 x.1 x.2.2).ownBlock = some b ∨ (w81.heap.size ≤ b ∧ ¬ C2 b)) ∧ Blk wz g18 32 #[.int .i64 ((-1 - (((nmTo ns (-1 - f)).1 : Nat) : Int))), .slice ra2 (x.1 + 1) rc2] | _ => False) vals wa → (fun vals wz => match vals with | [] => NmAt wz gn gs (T.rnL (l.take x.1) (nmTo ns (-1 - f)).2).2 Ck ∧ RowD eltT (fun b => ((fun b => w.heap.size ≤ b ∧ b ≠ g2 ∧ b ≠ g9 ∧ b ≠ g18 ∧ b ≠ g72) b ∧ ¬ Ck b ∧ (Value.slice x.2.1 x.1 x.2.2).ownBlock ≠ some b) ∧ b < w81.heap.size) wz 32 x.2.1 x.2.2 x.1 (T.rnL (l.take x.1) (nmTo ns (-1 - f)).2).1 ∧ Blk wz g18 32 #[.int .i64 ((-1 - (((nmTo ns (-1 - f)).1 : Nat) : Int))), .slice x.2.1 x.1 x.2.2] | [z0] => ∃ C2, NmAt wz gn gs (T.rn (tget l x.1) (T.rnL (l.take x.1) (nmTo ns (-1 - f)).2).2).2 C2 ∧ (∀ b, C2 b → Ck b ∨ w81.heap.size ≤ b) ∧ InT (fun b => w81.heap.size ≤ b ∧ ¬ C2 b) wz (T.rn (tget l x.1) (T.rnL (l.take x.1) (nmTo ns (-1 - f)).2).2).1 z0 ∧ RowD eltT (fun b => ((fun b => w.heap.size ≤ b ∧ b ≠ g2 ∧ b ≠ g9 ∧ b ≠ g18 ∧ b ≠ g72) b ∧ ¬ Ck b ∧ (Value.slice x.2.1 x.1 x.2.2).ownBlock ≠ some b) ∧ b < w81.heap.size) wz 32 x.2.1 x.2.2 x.1 (T.rnL (l.take x.1) (nmTo ns (-1 - f)).2).1 ∧ Blk wz g18 32 #[.int .i64 ((-1 - (((nmTo ns (-1 - f)).1 : Nat) : Int))), .slice x.2.1 x.1 x.2.2] | [_, z1] => ∃ C2 g1 cs, z1 = .slice (some ⟨g1, 0, none⟩) 1 1 ∧ Blk wz g1 32 (List.toArray cs) ∧ eltT.In (fun b => w81.heap.size ≤ b ∧ ¬ C2 b) wz (T.rn (tget l x.1) (T.rnL (l.take x.1) (nmTo ns (-1 - f)).2).2).1 cs ∧ NmAt wz gn gs (T.rn (tget l x.1) (T.rnL (l.take x.1) (nmTo ns (-1 - f)).2).2).2 C2 ∧ (∀ b, C2 b → Ck b ∨ w81.heap.size ≤ b) ∧ RowD eltT (fun b => ((fun b => w.heap.size ≤ b ∧ b ≠ g2 ∧ b ≠ g9 ∧ b ≠ g18 ∧ b ≠ g72) b ∧ ¬ Ck b ∧ (Value.slice x.2.1 x.1 x.2.2).ownBlock ≠ some b) ∧ b < w81.heap.size) wz 32 x.2.1 x.2.2 x.1 (T.rnL (l.take x.1) (nmTo ns (-1 - f)).2).1 ∧ Blk wz g18 32 #[.int .i64 ((-1 - (((nmTo ns (-1 - f)).1 : Nat) : Int))), .slice x.2.1 x.1 x.2.2] | [_, _, z2] => ∃ C2 ra2 rc2 Z, z2 = .slice ra2 (x.1 + 1) rc2 ∧ NmAt wz gn gs (T.rn (tget l x.1) (T.rnL (l.take x.1) (nmTo ns (-1 - f)).2).2).2 C2 ∧ (∀ b, C2 b → Ck b ∨ w81.heap.size ≤ b) ∧ RowD eltT Z wz 32 ra2 rc2 (x.1 + 1) ((T.rnL (l.take x.1) (nmTo ns (-1 - f)).2).1 ++ [(T.rn (tget l x.1) (T.rnL (l.take x.1) (nmTo ns (-1 - f)).2).2).1]) ∧ (∀ b, Z b → ((fun b => w.heap.size ≤ b ∧ b ≠ g2 ∧ b ≠ g9 ∧ b ≠ g18 ∧ b ≠ g72) b ∧ ¬ Ck b ∧ b < w81.heap.size) ∨ (w81.heap.size ≤ b ∧ ¬ C2 b)) ∧ (∀ b, (Value.slice ra2 (x.1 + 1) rc2).ownBlock = some b → (Value.slice x.2.1 x.1 x.2.2).ownBlock = some b ∨ (w81.heap.size ≤ b ∧ ¬ C2 b)) ∧ Blk wz g18 32 #[.int .i64 ((-1 - (((nmTo ns (-1 - f)).1 : Nat) : Int))), .slice x.2.1 x.1 x.2.2] | [_, _, z2, _] => ∃ C2 ra2 rc2 Z, z2 = .slice ra2 (x.1 + 1) rc2 ∧ NmAt wz gn gs (T.rn (tget l x.1) (T.rnL (l.take x.1) (nmTo ns (-1 - f)).2).2).2 C2 ∧ (∀ b, C2 b → Ck b ∨ w81.heap.size ≤ b) ∧ RowD eltT Z wz 32 ra2 rc2 (x.1 + 1) ((T.rnL (l.take x.1) (nmTo ns (-1 - f)).2).1 ++ [(T.rn (tget l x.1) (T.rnL (l.take x.1) (nmTo ns (-1 - f)).2).2).1]) ∧ (∀ b, Z b → ((fun b => w.heap.size ≤ b ∧ b ≠ g2 ∧ b ≠ g9 ∧ b ≠ g18 ∧ b ≠ g72) b ∧ ¬ Ck b ∧ b < w81.heap.size) ∨ (w81.heap.size ≤ b ∧ ¬ C2 b)) ∧ (∀ b, (Value.slice ra2 (x.1 + 1) rc2).ownBlock = some b → (Value.slice x.2.1 x.1 x.2.2).ownBlock = some b ∨ (w81.heap.size ≤ b ∧ ¬ C2 b)) ∧ Blk wz g18 32 #[.int .i64 ((-1 - (((nmTo ns (-1 - f)).1 : Nat) : Int))), .slice ra2 (x.1 + 1) rc2] | _ => False) vals wb := by
          intro vals wa wb hb h
          match vals, h with
          | [], h => exact ⟨h.1.below hb, h.2.1.below hb, h.2.2.below hb⟩
          | [z0], h =>
            obtain ⟨C2, k1, k2, k3, k4, k5⟩ := h
            exact ⟨C2, k1.below hb, k2, k3.below hb, k4.below hb, k5.below hb⟩
          | [_, z1], h =>
            obtain ⟨C2, g1, cs, e, k0, k3, k1, k2, k4, k5⟩ := h
            exact ⟨C2, g1, cs, e, k0.below hb, Elt.below (E := eltT) k3 hb, k1.below hb, k2, k4.below hb, k5.below hb⟩
          | [_, _, z2], h =>
            obtain ⟨C2, ra2, rc2, Z, e, k1, k2, k3, k4, k5, k6⟩ := h
            exact ⟨C2, ra2, rc2, Z, e, k1.below hb, k2, k3.below hb, k4, k5, k6.below hb⟩
          | [_, _, z2, _], h =>
            obtain ⟨C2, ra2, rc2, Z, e, k1, k2, k3, k4, k5, k6⟩ := h
            exact ⟨C2, ra2, rc2, Z, e, k1.below hb, k2, k3.below hb, k4, k5, k6.below hb⟩
        refine WC.seqV (S := ((fun b => Ck b ∨ (Value.slice x.2.1 x.1 x.2.2).ownBlock = some b ∨ b = g18))) [(true, .val (.pointer (some ⟨g18, 1, none⟩))), (true, .val (.slice x.2.1 x.1 x.2.2)), (true, .val (.agg #[.int .i64 ((tget l x.1).f), .slice pka ((tget l x.1).args.length) pkc])), (true, .val (.func (.func 54) #[] #[.pointer (some ⟨gn, 0, none⟩), .pointer (some ⟨gs, 0, none⟩)])), (true, .val undef), (true, .val undef), (true, .val undef), (true, .val (.pointer (some ⟨g18, 1, none⟩))), (true, .val undef)] [(0, .agg #[.int .i64 f, .slice pa0 l.length pc0]), (1, .func (.func 54) #[] #[.pointer (some ⟨gn, 0, none⟩), .pointer (some ⟨gs, 0, none⟩)]), (2, .pointer (some ⟨g2, 0, none⟩)), (4, .pointer (some ⟨g9, 0, none⟩)), (5, .pointer (some ⟨g18, 0, none⟩)), (7, .pointer (some ⟨g72, 0, none⟩)), (13, .bool ((decide ((f : Int) < (0 : Int))))), (22, .slice pa0 l.length pc0), (23, .int .i64 (((l.length : Nat) : Int))), (24, .int .i64 (((x.1 : Nat) : Int))), (25, .bool ((decide ((((x.1 : Nat) : Int) : Int) < (((l.length : Nat) : Int) : Int)))))] [4, 5, 6, 8] [none, none, none, none] (fun vals wz => match vals with | [] => NmAt wz gn gs (T.rnL (l.take x.1) (nmTo ns (-1 - f)).2).2 Ck ∧ RowD eltT (fun b => ((fun b => w.heap.size ≤ b ∧ b ≠ g2 ∧ b ≠ g9 ∧ b ≠ g18 ∧ b ≠ g72) b ∧ ¬ Ck b ∧ (Value.slice x.2.1 x.1 x.2.2).ownBlock ≠ some b) ∧ b < w81.heap.size) wz 32 x.2.1 x.2.2 x.1 (T.rnL (l.take x.1) (nmTo ns (-1 - f)).2).1 ∧ Blk wz g18 32 #[.int .i64 ((-1 - (((nmTo ns (-1 - f)).1 : Nat) : Int))), .slice x.2.1 x.1 x.2.2] | [z0] => ∃ C2, NmAt wz gn gs (T.rn (tget l x.1) (T.rnL (l.take x.1) (nmTo ns (-1 - f)).2).2).2 C2 ∧ (∀ b, C2 b → Ck b ∨ w81.heap.size ≤ b) ∧ InT (fun b => w81.heap.size ≤ b ∧ ¬ C2 b) wz (T.rn (tget l x.1) (T.rnL (l.take x.1) (nmTo ns (-1 - f)).2).2).1 z0 ∧ RowD eltT (fun b => ((fun b => w.heap.size ≤ b ∧ b ≠ g2 ∧ b ≠ g9 ∧ b ≠ g18 ∧ b ≠ g72) b ∧ ¬ Ck b ∧ (Value.slice x.2.1 x.1 x.2.2).ownBlock ≠ some b) ∧ b < w81.heap.size) wz 32 x.2.1 x.2.2 x.1 (T.rnL (l.take x.1) (nmTo ns (-1 - f)).2).1 ∧ Blk wz g18 32 #[.int .i64 ((-1 - (((nmTo ns (-1 - f)).1 : Nat) : Int))), .slice x.2.1 x.1 x.2.2] | [_, z1] => ∃ C2 g1 cs, z1 = .slice (some ⟨g1, 0, none⟩) 1 1 ∧ Blk wz g1 32 (List.toArray cs) ∧ eltT.In (fun b => w81.heap.size ≤ b ∧ ¬ C2 b) wz (T.rn (tget l x.1) (T.rnL (l.take x.1) (nmTo ns (-1 - f)).2).2).1 cs ∧ NmAt wz gn gs (T.rn (tget l x.1) (T.rnL (l.take x.1) (nmTo ns (-1 - f)).2).2).2 C2 ∧ (∀ b, C2 b → Ck b ∨ w81.heap.size ≤ b) ∧ RowD eltT (fun b => ((fun b => w.heap.size ≤ b ∧ b ≠ g2 ∧ b ≠ g9 ∧ b ≠ g18 ∧ b ≠ g72) b ∧ ¬ Ck b ∧ (Value.slice x.2.1 x.1 x.2.2).ownBlock ≠ some b) ∧ b < w81.heap.size) wz 32 x.2.1 x.2.2 x.1 (T.rnL (l.take x.1) (nmTo ns (-1 - f)).2).1 ∧ Blk wz g18 32 #[.int .i64 ((-1 - (((nmTo ns (-1 - f)).1 : Nat) : Int))), .slice x.2.1 x.1 x.2.2] | [_, _, z2] => ∃ C2 ra2 rc2 Z, z2 = .slice ra2 (x.1 + 1) rc2 ∧ NmAt wz gn gs (T.rn (tget l x.1) (T.rnL (l.take x.1) (nmTo ns (-1 - f)).2).2).2 C2 ∧ (∀ b, C2 b → Ck b ∨ w81.heap.size ≤ b) ∧ RowD eltT Z wz 32 ra2 rc2 (x.1 + 1) ((T.rnL (l.take x.1) (nmTo ns (-1 - f)).2).1 ++ [(T.rn (tget l x.1) (T.rnL (l.take x.1) (nmTo ns (-1 - f)).2).2).1]) ∧ (∀ b, Z b → ((fun b => w.heap.size ≤ b ∧ b ≠ g2 ∧ b ≠ g9 ∧ b ≠ g18 ∧ b ≠ g72) b ∧ ¬ Ck b ∧ b < w81.heap.size) ∨ (w81.heap.size ≤ b ∧ ¬ C2 b)) ∧ (∀ b, (Value.slice ra2 (x.1 + 1) rc2).ownBlock = some b → (Value.slice x.2.1 x.1 x.2.2).ownBlock = some b ∨ (w81.heap.size ≤ b ∧ ¬ C2 b)) ∧ Blk wz g18 32 #[.int .i64 ((-1 - (((nmTo ns (-1 - f)).1 : Nat) : Int))), .slice x.2.1 x.1 x.2.2] | [_, _, z2, _] => ∃ C2 ra2 rc2 Z, z2 = .slice ra2 (x.1 + 1) rc2 ∧ NmAt wz gn gs (T.rn (tget l x.1) (T.rnL (l.take x.1) (nmTo ns (-1 - f)).2).2).2 C2 ∧ (∀ b, C2 b → Ck b ∨ w81.heap.size ≤ b) ∧ RowD eltT Z wz 32 ra2 rc2 (x.1 + 1) ((T.rnL (l.take x.1) (nmTo ns (-1 - f)).2).1 ++ [(T.rn (tget l x.1) (T.rnL (l.take x.1) (nmTo ns (-1 - f)).2).2).1]) ∧ (∀ b, Z b → ((fun b => w.heap.size ≤ b ∧ b ≠ g2 ∧ b ≠ g9 ∧ b ≠ g18 ∧ b ≠ g72) b ∧ ¬ Ck b ∧ b < w81.heap.size) ∨ (w81.heap.size ≤ b ∧ ¬ C2 b)) ∧ (∀ b, (Value.slice ra2 (x.1 + 1) rc2).ownBlock = some b → (Value.slice x.2.1 x.1 x.2.2).ownBlock = some b ∨ (w81.heap.size ≤ b ∧ ¬ C2 b)) ∧ Blk wz g18 32 #[.int .i64 ((-1 - (((nmTo ns (-1 - f)).1 : Nat) : Int))), .slice ra2 (x.1 + 1) rc2] | _ => False) hGV9 (by decide) ⟨rfl, rfl, rfl, rfl, rfl, rfl, rfl, rfl, rfl, rfl, rfl, trivial⟩ (by kernel_rfl) (by kernel_rfl) (by kernel_rfl) (by kernel_rfl) (⟨hk1, hk3, hB91⟩) ?_ ?_
        · refine ⟨.inl ⟨rfl, true, .none rfl, (fun gg b h => by cases h), fun h w => optUndef h, fun zβ za zw zc => ?_⟩, ?_⟩
          · exact fld_32_1 rfl (zc.kn.ev rfl) ⟨_, rfl, Below.refl _ _, optDef zβ rfl⟩
          refine ⟨.inl ⟨rfl, true, .none rfl, (fun gg b h => by cases h), fun h w => optUndef h, fun zβ za zw zc => ?_⟩, ?_⟩
          · obtain ⟨vals, hle, hgv, _⟩ := zc.early 2 6 rfl (by kernel_rfl)
            have hb5 : Blk zw g18 32 #[.int .i64 ((-1 - (((nmTo ns (-1 - f)).1 : Nat) : Int))), .slice x.2.1 x.1 x.2.2] := by
              match vals, hle, hgv with
              | [], _, hg => exact hg.2.2
              | [z0], _, hg => obtain ⟨C2, k1, k2, k3, k4, k5⟩ := hg; exact k5
              | [_, z1], _, hg => obtain ⟨C2, g1, cs, e, k0, k3, k1, k2, k4, k5⟩ := hg; exact k5
            exact ld_30 rfl ((show za.eval (.tmp 28) = za.tmps.getD 28 undef from rfl).trans (optSVal (zc.dep 0 28 (by kernel_rfl) (by decide)) rfl rfl)) ((hb5.cell 1).trans rfl) ⟨_, rfl, Below.refl _ _, optDef zβ rfl⟩
          refine ⟨.inl ⟨rfl, true, .none rfl, (fun gg b h => by cases h), fun h w => optUndef h, fun zβ za zw zc => ?_⟩, ?_⟩
          · exact ld_32 rfl (zc.kn.ev rfl) (chg_cell zc.chg (by first | assumption | ((try dsimp only at *); omega)) ((hB83.cell 0).trans rfl)) (chg_cell zc.chg (by first | assumption | ((try dsimp only at *); omega)) ((hB83.cell 1).trans rfl)) ⟨_, rfl, Below.refl _ _, optDef zβ rfl⟩
          refine ⟨.inl ⟨rfl, true, .none rfl, (fun gg b h => by cases h), fun h w => optUndef h, fun zβ za zw zc => ?_⟩, ?_⟩
          · exact wp_move rfl (zc.kn.ev rfl) ⟨_, rfl, Below.refl _ _, optDef zβ rfl⟩
          refine ⟨.inr ⟨0, rfl, by kernel_rfl, true, .none rfl, (fun gg b h => by cases h), (fun h => (nomatch h)), fun zβ za zw zvals zc => ?_⟩, ?_⟩
          · obtain rfl := vlen0 zc.len
            have zn := zc.now
            exact wp_call (by kernel_rfl) rfl (hv2 ((show za.eval (.tmp 30) = za.tmps.getD 30 undef from rfl).trans (optSVal (zc.dep 2 30 (by kernel_rfl) (by decide)) rfl rfl)) ((show za.eval (.tmp 31) = za.tmps.getD 31 undef from rfl).trans (optSVal (zc.dep 3 31 (by kernel_rfl) (by decide)) rfl rfl))) (ih (tget l x.1) (tget_mem (by omega)) gn gs (T.rnL (l.take x.1) (nmTo ns (-1 - f)).2).2 Ck (fun b => A b ∧ b < w.heap.size) _ _ zn.1 (hpk4.chg zc.chg hnA) (fun b q q2 => hnA b q (.inl q2)) (by omega) (by omega)) (fun v w' h => by obtain ⟨⟨C2, k1, k2, k3⟩, k4⟩ := h; exact ⟨v, rfl, k4.mono (fun b q => .inl q), ⟨C2, k1, fun b q => (k2 b q).imp id (fun q => Nat.le_trans zc.chg.size q), k3.mono (fun b q _ => ⟨Nat.le_trans zc.chg.size q.1, q.2⟩), zn.2.1.chg k4 (fun b q => (hk4 b q).2) (fun b q => q.1.2.1), chg_blk zn.2.2 k4 hn5⟩, cvNo⟩)
          refine ⟨.inr ⟨1, rfl, by kernel_rfl, true, .none rfl, (fun gg b h => by cases h), (fun h => (nomatch h)), fun zβ za zw zvals zc => ?_⟩, ?_⟩
          · obtain ⟨z0, rfl⟩ := vlen1 zc.len
            have zn := zc.now
            obtain ⟨C2, k1, k2, k3, k4, k5⟩ := zn
            have e0 : z0 = za.tmps.getD 32 undef := Option.some.inj (zc.val 0 4 32 rfl (by kernel_rfl))
            obtain ⟨_, fa, fc, ef, _⟩ := k3.form
            have k3b := k3
            rw [ef] at k3b
            exact row_30_1 rfl ((show za.eval (.tmp 32) = za.tmps.getD 32 undef from rfl).trans (e0.symm.trans ef)) ⟨_, rfl, .ofBelow (balloc _ _), ⟨C2, _, _, rfl, Blk.new' rfl, ⟨_, _, rfl, k3b.below (balloc _ _)⟩, k1.below (balloc _ _), k2, k4.below (balloc _ _), k5.below (balloc _ _)⟩, cvNo⟩
          refine ⟨.inr ⟨2, rfl, by kernel_rfl, true, .none rfl, (fun gg b h => by cases h), (fun h => (nomatch h)), fun zβ za zw zvals zc => ?_⟩, ?_⟩
          · obtain ⟨z0, z1, rfl⟩ := vlen2 zc.len
            have zn := zc.now
            obtain ⟨C2, g1, cs, e, k0, k3, k1, k2, k4, k5⟩ := zn
            have e1 : z1 = za.tmps.getD 33 undef := Option.some.inj (zc.val 1 5 33 rfl (by kernel_rfl))
            exact wp_appD (E := eltT) (S2 := (fun b => w81.heap.size ≤ b ∧ ¬ C2 b)) (size := 2) (bytes := 32) (z := .agg #[.int .i64 0, .slice none 0 0]) rfl Try.underlying30 (by kernel_rfl) rfl (by decide) rfl ((show za.eval (.tmp 29) = za.tmps.getD 29 undef from rfl).trans (optSVal (zc.dep 1 29 (by kernel_rfl) (by decide)) rfl rfl)) ((show za.eval (.tmp 33) = za.tmps.getD 33 undef from rfl).trans (e1.symm.trans e)) k4 k0 k3 (fun b q q2 => by have z := hkl b q2; (try dsimp only at q); omega) (by omega) (by omega) (fun ra rc w' h1 h2 h3 => ⟨_, rfl, h2.mono (fun b q => .inr (.inl q)), ⟨C2, ra, rc, _, rfl, k1.chg h2 (fun b q q2 => by rcases k2 b q with z | z; exact (hk4 b q2).2 z; (have z2 := hkl b q2; omega)), k2, h1, fun b q => q.1.imp (fun q => ⟨q.1.1, q.1.2.1, q.2⟩) id, fun b q => (h3 b q).imp id (fun q2 => ⟨Nat.le_trans zc.chg.size q2, fun q3 => by have z := k1.clt b q3; omega⟩), chg_blk k5 h2 ho5⟩, cvNo⟩)
          refine ⟨.inl ⟨rfl, true, .none rfl, (fun gg b h => by cases h), fun h w => optUndef h, fun zβ za zw zc => ?_⟩, ?_⟩
          · exact fld_32_1 rfl (zc.kn.ev rfl) ⟨_, rfl, Below.refl _ _, optDef zβ rfl⟩
          refine ⟨.inr ⟨3, rfl, by kernel_rfl, true, .none rfl, (fun gg b h => by cases h), (fun h => (nomatch h)), fun zβ za zw zvals zc => ?_⟩, ?_⟩
          · obtain ⟨z0, z1, z2, rfl⟩ := vlen3 zc.len
            have zn := zc.now
            obtain ⟨C2, ra2, rc2, Z, e, k1, k2, k3, k4, k5, k6⟩ := zn
            have e2 : z2 = za.tmps.getD 34 undef := Option.some.inj (zc.val 2 6 34 rfl (by kernel_rfl))
            have n5 : ¬ C2 g18 := fun q => by rcases k2 _ q with z | z; exact hn5 z; omega
            have nz : ¬ Z g18 := fun q => by rcases k4 _ q with z | z; (have z1 := z.1; (try dsimp only at z1); omega); omega
            have no : (Value.slice ra2 (x.1 + 1) rc2).ownBlock ≠ some g18 := fun q => by rcases k5 _ q with z | z; exact ho5 z; omega
            exact st_30 rfl ((show za.eval (.tmp 35) = za.tmps.getD 35 undef from rfl).trans (optSVal (zc.dep 7 35 (by kernel_rfl) (by decide)) rfl rfl)) ((show za.eval (.tmp 34) = za.tmps.getD 34 undef from rfl).trans (e2.symm.trans e)) k6 (by first | decide | simp) (fun v => ⟨v, rfl, .ofUpd (Upd.at_ _ _ _ _) (.inr (.inr rfl)), ⟨C2, ra2, rc2, Z, e, k1.chg (.ofUpd (S := fun b => b = g18) (Upd.at_ _ _ _ _) rfl) (fun b q e => n5 (by subst e; exact q)), k2, k3.chg (.ofUpd (S := fun b => b = g18) (Upd.at_ _ _ _ _) rfl) (fun b q e => no (by subst e; exact q)) (fun b q e => nz (by subst e; exact q)), k4, k5, k6.set_ 1 _⟩, cvNo⟩)
          exact trivial
        · intro za w100 zvals zh zl hG101 hc102 zu zw zk
          obtain ⟨z0, z1, z2, z3, rfl⟩ := vlen4 zl
          obtain ⟨C103, ra104, rc105, Z106, e107, k108, k109, k110, k111, k112, k113⟩ := hG101
          have hst114 : RnSt C (fun b => w.heap.size ≤ b ∧ b ≠ g2 ∧ b ≠ g9 ∧ b ≠ g18 ∧ b ≠ g72) gn gs (T.rn (tget l x.1) (T.rnL (l.take x.1) (nmTo ns (-1 - f)).2).2).2 ((T.rnL (l.take x.1) (nmTo ns (-1 - f)).2).1 ++ [(T.rn (tget l x.1) (T.rnL (l.take x.1) (nmTo ns (-1 - f)).2).2).1]) ra104 rc105 (x.1 + 1) w100 := RnSt.join hk2 hk4 hkl (fun b q => by (try dsimp only); omega) k108 k109 k110 k111 k112
          have hB115 := chg_blk hB87 hc102 (by assumption)
          have hB116 := chg_blk hB89 hc102 (by assumption)
          have hB117 := chg_blk hB83 hc102 (by assumption)
          have hcs118 : Chg (fun b => (C b ∧ b < w.heap.size) ∨ w.heap.size ≤ b) w81 w100 := hc102.mono (fun b q => by
            rcases q with q | q | q
            · rcases hk2 b q with z | z
              · exact .inl ⟨z, hClt b z⟩
              · exact .inr z.1
            · exact .inr (hk4 b q).1.1
            · exact .inr (by omega))
          clear zu zw zk
          refine (show WE _ [(0, .agg #[.int .i64 f, .slice pa0 l.length pc0]), (1, .func (.func 54) #[] #[.pointer (some ⟨gn, 0, none⟩), .pointer (some ⟨gs, 0, none⟩)]), (2, .pointer (some ⟨g2, 0, none⟩)), (4, .pointer (some ⟨g9, 0, none⟩)), (5, .pointer (some ⟨g18, 0, none⟩)), (7, .pointer (some ⟨g72, 0, none⟩)), (13, .bool ((decide ((f : Int) < (0 : Int))))), (22, .slice pa0 l.length pc0), (23, .int .i64 (((l.length : Nat) : Int))), (24, .int .i64 (((x.1 : Nat) : Int))), (25, .bool ((decide ((((x.1 : Nat) : Int) : Int) < (((l.length : Nat) : Int) : Int)))))] w100 _ .normal from ?_) za (zh.sub ⟨rfl, rfl, rfl, rfl, rfl, rfl, rfl, rfl, rfl, rfl, rfl, trivial⟩)
          refine WE.blockNormal ?_
          refine WE.next ?_
          refine WC.region ?_
          refine WL.val (.int .i64 ((((x.1 + 1) : Nat) : Int))) rfl rfl rfl (fun za zC zh zk => addb_3 rfl (zh.ev rfl) (zh.ev rfl) (wrap_eq (by omega) (by omega) (by omega)) zk) ?_
          refine WL.val (.int .i64 ((((x.1 + 1) : Nat) : Int))) rfl rfl rfl (fun za zC zh zk => wp_move rfl (zh.ev rfl) zk) ?_
          refine WL.nil (WE.sub (K' := [(0, .agg #[.int .i64 f, .slice pa0 l.length pc0]), (1, .func (.func 54) #[] #[.pointer (some ⟨gn, 0, none⟩), .pointer (some ⟨gs, 0, none⟩)]), (2, .pointer (some ⟨g2, 0, none⟩)), (4, .pointer (some ⟨g9, 0, none⟩)), (5, .pointer (some ⟨g18, 0, none⟩)), (7, .pointer (some ⟨g72, 0, none⟩)), (13, .bool ((decide ((f : Int) < (0 : Int))))), (22, .slice pa0 l.length pc0), (23, .int .i64 (((l.length : Nat) : Int))), (24, .int .i64 ((((x.1 + 1) : Nat) : Int))), (25, .bool ((decide ((((x.1 : Nat) : Int) : Int) < (((l.length : Nat) : Int) : Int)))))]) ⟨rfl, rfl, rfl, rfl, rfl, rfl, rfl, rfl, rfl, rfl, rfl, trivial⟩ ?_)
          refine WE.round ((x.1 + 1, ra104, rc105)) ⟨rfl, rfl, rfl, rfl, rfl, rfl, rfl, rfl, rfl, trivial⟩ ?_ ?_
          · have hs119 : Chg ((fun b => (C b ∧ b < w.heap.size) ∨ w.heap.size ≤ b)) w w100 := (Chg.trans2 (Chg.trans2 (Chg.trans2 (Chg.refl ((fun b => (C b ∧ b < w.heap.size) ∨ w.heap.size ≤ b)) _) hc68 (fun i h1 h2 => by first | exact h2 | exact .inl ⟨h2, h1⟩ | exact .inl h2 | exact .inr h2 | exact .inr (.inl h2) | exact .inr (.inr h2) | ((try dsimp only at *); omega))) (Chg.ofBelow (S := fun k => k < 0) hb85) (fun i h1 h2 => by first | exact h2 | exact .inl ⟨h2, h1⟩ | exact .inl h2 | exact .inr h2 | exact .inr (.inl h2) | exact .inr (.inr h2) | ((try dsimp only at *); omega))) hcs118 (fun i h1 h2 => by first | exact h2 | exact .inl ⟨h2, h1⟩ | exact .inl h2 | exact .inr h2 | exact .inr (.inl h2) | exact .inr (.inr h2) | ((try dsimp only at *); omega)))
            exact ⟨by (try dsimp only); omega, hB115, hB116, k113, (by dsimp only; rw [rnL_take (by omega)]; exact RnSt.mono hst114 (fun b q _ => by (try dsimp only at *); omega)), hs119⟩
          · (try dsimp only); omega
      · have h69 : ¬ ((((x.1 : Nat) : Int) : Int) < (((l.length : Nat) : Int) : Int)) := by simpa using h69
        refine WC.exit ?_
        refine WE.thenExit ?_
        refine WE.thenExit ?_
        refine WE.blockIs rfl ?_
        refine WE.next ?_
        refine WC.seq ?_
        refine WC.region ?_
        refine WL.val (.agg #[.int .i64 ((-1 - (((nmTo ns (-1 - f)).1 : Nat) : Int))), .slice x.2.1 x.1 x.2.2]) rfl rfl rfl (fun za zC zh zk => ld_32 rfl (zh.ev rfl) ((hB66.cell 0).trans rfl) ((hB66.cell 1).trans rfl) zk) ?_
        refine WL.step (post := fun _ w' => Upd g9 w62 w' ∧ Blk w' g9 32 #[.int .i64 ((-1 - (((nmTo ns (-1 - f)).1 : Nat) : Int))), .slice x.2.1 x.1 x.2.2]) rfl rfl rfl (fun za zC zh zk => st_32 rfl (zh.ev rfl) (zh.ev rfl) rfl rfl hB65 (by first | decide | simp) (fun v => zk v _ ⟨(Upd.at_ _ _ _ _).trans (Upd.at_ _ _ _ _), (hB65.set_ 0 _).set_ 1 _⟩)) ?_
        rintro v123 w120 ⟨hu121, hB122⟩
        have hB124 := upd_blk hB64 hu121 (by omega)
        have hB125 := upd_blk hB66 hu121 (by omega)
        refine WL.nil (WE.sub (K' := [(0, .agg #[.int .i64 f, .slice pa0 l.length pc0]), (1, .func (.func 54) #[] #[.pointer (some ⟨gn, 0, none⟩), .pointer (some ⟨gs, 0, none⟩)]), (2, .pointer (some ⟨g2, 0, none⟩)), (4, .pointer (some ⟨g9, 0, none⟩)), (5, .pointer (some ⟨g18, 0, none⟩)), (13, .bool ((decide ((f : Int) < (0 : Int))))), (22, .slice pa0 l.length pc0), (23, .int .i64 (((l.length : Nat) : Int))), (24, .int .i64 (((x.1 : Nat) : Int))), (25, .bool ((decide ((((x.1 : Nat) : Int) : Int) < (((l.length : Nat) : Int) : Int)))))]) ⟨rfl, rfl, rfl, rfl, rfl, rfl, rfl, rfl, rfl, rfl, trivial⟩ ?_)
        refine WE.next ?_
        refine WC.ret ?_
        refine WE.retAny (v := .agg #[.int .i64 ((-1 - (((nmTo ns (-1 - f)).1 : Nat) : Int))), .slice x.2.1 x.1 x.2.2]) (fun za zh => ?_) ?_
        · have z0 : za.tmps[4]?.getD undef = .pointer (some ⟨g9, 0, none⟩) := by rw [← Array.getD_eq_getD_getElem?]; exact zh.knows 4 _ rfl
          have y0 : w120.cell? ⟨g9, 0, none⟩ = some (.int .i64 ((-1 - (((nmTo ns (-1 - f)).1 : Nat) : Int)))) := ((hB122.cell 0).trans rfl)
          have y1 : w120.cell? ⟨g9, 1, none⟩ = some (.slice x.2.1 x.1 x.2.2) := ((hB122.cell 1).trans rfl)
          simp [results, Try.results51, z0, y0, y1, go_sem]
        · have hs126 : Chg ((fun b => b = g9)) w62 w120 := (Chg.trans2 (Chg.refl ((fun b => b = g9)) _) (Chg.ofUpd (S := fun k => k = g9) hu121 rfl) (fun i h1 h2 => by first | exact h2 | exact .inl ⟨h2, h1⟩ | exact .inl h2 | exact .inr h2 | exact .inr (.inl h2) | exact .inr (.inr h2) | ((try dsimp only at *); omega)))
          have hxk : x.1 = l.length := by omega
          have hcf := hs126
          obtain ⟨C9, m1, m2, m3, m4⟩ := RnSt.chg ho67 hcf (fun b q e => by have z := hClt b q; (try dsimp only at e); omega) (fun b q e => by (try dsimp only at q e); omega)
          have hs127 : Chg ((fun b => (C b ∧ b < w.heap.size) ∨ w.heap.size ≤ b)) w w120 := (Chg.trans2 (Chg.trans2 (Chg.refl ((fun b => (C b ∧ b < w.heap.size) ∨ w.heap.size ≤ b)) _) hc68 (fun i h1 h2 => by first | exact h2 | exact .inl ⟨h2, h1⟩ | exact .inl h2 | exact .inr h2 | exact .inr (.inl h2) | exact .inr (.inr h2) | ((try dsimp only at *); omega))) (Chg.ofUpd (S := fun k => k = g9) hu121 rfl) (fun i h1 h2 => by first | exact h2 | exact .inl ⟨h2, h1⟩ | exact .inl h2 | exact .inr h2 | exact .inr (.inl h2) | exact .inr (.inr h2) | ((try dsimp only at *); omega)))
          rw [List.take_of_length_le (by omega)] at m1 m3
          have hrn := rn_eq (f := f) (l := l) (ns := ns)
          rw [if_pos (by omega)] at hrn
          have hcw := hs127
          refine ⟨_, rfl, ⟨C9, by rw [hrn]; exact m1, fun b q => (m2 b q).imp id (fun q => q.1), by rw [hrn]; exact inT_row (by unfold I64; omega) m3 (fun b q => ⟨q.1.1, q.2.1⟩) (fun b q => ⟨(m4 b q).1.1, (m4 b q).2⟩)⟩, (Chg.refl C w).trans2 hcw (fun b hl q => q.elim (fun q => q.1) (fun q => by omega))⟩
  · have h37 : ¬ ((f : Int) < (0 : Int)) := by simpa using h37
    refine WC.skip ?_
    refine WE.next ?_
    refine WC.seq ?_
    refine WC.seq ?_
    refine WC.region ?_
    refine WL.val (.pointer (some ⟨g2, 1, none⟩)) rfl rfl rfl (fun za zC zh zk => fld_32_1 rfl (zh.ev rfl) zk) ?_
    refine WL.val (.slice pa0 l.length pc0) rfl rfl rfl (fun za zC zh zk => ld_30 rfl (zh.ev rfl) ((hB34.cell 1).trans rfl) zk) ?_
    refine WL.val (.int .i64 (((l.length : Nat) : Int))) rfl rfl rfl (fun za zC zh zk => len_30 rfl (zh.ev rfl) zk) ?_
    refine WL.val (.int .i64 0) rfl rfl rfl (fun za zC zh zk => wp_move rfl (zh.ev rfl) zk) ?_
    refine WL.nil (WE.sub (K' := [(0, .agg #[.int .i64 f, .slice pa0 l.length pc0]), (1, .func (.func 54) #[] #[.pointer (some ⟨gn, 0, none⟩), .pointer (some ⟨gs, 0, none⟩)]), (2, .pointer (some ⟨g2, 0, none⟩)), (4, .pointer (some ⟨g9, 0, none⟩)), (5, .pointer (some ⟨g18, 0, none⟩)), (13, .bool ((decide ((f : Int) < (0 : Int))))), (22, .slice pa0 l.length pc0), (23, .int .i64 (((l.length : Nat) : Int))), (24, .int .i64 0)]) ⟨rfl, rfl, rfl, rfl, rfl, rfl, rfl, rfl, rfl, trivial⟩ ?_)
    refine WE.next ?_
    refine WC.block ?_
    have hl128 : g2 < w27.heap.size := hB34.lt
    have hl129 : w.heap.size ≤ g2 := by have z : w.heap.size ≤ w.heap.size := (Nat.le_refl _); omega
    have hl130 : g9 < w27.heap.size := hB36.lt
    have hl131 : w.heap.size ≤ g9 := by have z : w.heap.size ≤ w1.heap.size := hb5.size; omega
    have hl132 : g18 < w27.heap.size := hB29.lt
    have hl133 : w.heap.size ≤ g18 := by have z : w.heap.size ≤ w8.heap.size := hb25.size; omega
    have hst0 : RnSt C (fun b => w.heap.size ≤ b ∧ b ≠ g2 ∧ b ≠ g9 ∧ b ≠ g18) gn gs ns [] none 0 0 w27 := RnSt.start (h.below hb32) (fun b q => .inl q)
    have hs134 : Chg ((fun b => (C b ∧ b < w.heap.size) ∨ w.heap.size ≤ b)) w w27 := (Chg.trans2 (Chg.refl ((fun b => (C b ∧ b < w.heap.size) ∨ w.heap.size ≤ b)) _) (Chg.ofBelow (S := fun k => k < 0) hb32) (fun i h1 h2 => by first | exact h2 | exact .inl ⟨h2, h1⟩ | exact .inl h2 | exact .inr h2 | exact .inr (.inl h2) | exact .inr (.inr h2) | ((try dsimp only at *); omega)))
    have hcS : Chg (fun b => (C b ∧ b < w.heap.size) ∨ w.heap.size ≤ b) w w27 := hs134
    refine WC.loop (X := Nat × Option Addr × Nat) (fun x => l.length - x.1) (fun x => [(0, .agg #[.int .i64 f, .slice pa0 l.length pc0]), (1, .func (.func 54) #[] #[.pointer (some ⟨gn, 0, none⟩), .pointer (some ⟨gs, 0, none⟩)]), (2, .pointer (some ⟨g2, 0, none⟩)), (4, .pointer (some ⟨g9, 0, none⟩)), (5, .pointer (some ⟨g18, 0, none⟩)), (13, .bool ((decide ((f : Int) < (0 : Int))))), (22, .slice pa0 l.length pc0), (23, .int .i64 (((l.length : Nat) : Int))), (24, .int .i64 (((x.1 : Nat) : Int)))]) (fun x w135 => x.1 ≤ l.length ∧ Blk w135 g2 32 #[.int .i64 f, .slice pa0 l.length pc0] ∧ Blk w135 g9 32 #[.int .i64 0, .slice none 0 0] ∧ Blk w135 g18 32 #[.int .i64 f, .slice x.2.1 x.1 x.2.2] ∧ RnSt C (fun b => w.heap.size ≤ b ∧ b ≠ g2 ∧ b ≠ g9 ∧ b ≠ g18) gn gs (T.rnL (l.take x.1) ns).2 (T.rnL (l.take x.1) ns).1 x.2.1 x.2.2 x.1 (w135) ∧ Chg ((fun b => (C b ∧ b < w.heap.size) ∨ w.heap.size ≤ b)) w w135) ((0, none, 0)) ⟨rfl, rfl, rfl, rfl, rfl, rfl, rfl, rfl, rfl, trivial⟩ ?_ ?_
    · have hs136 : Chg ((fun b => (C b ∧ b < w.heap.size) ∨ w.heap.size ≤ b)) w w27 := (Chg.trans2 (Chg.refl ((fun b => (C b ∧ b < w.heap.size) ∨ w.heap.size ≤ b)) _) (Chg.ofBelow (S := fun k => k < 0) hb32) (fun i h1 h2 => by first | exact h2 | exact .inl ⟨h2, h1⟩ | exact .inl h2 | exact .inr h2 | exact .inr (.inl h2) | exact .inr (.inr h2) | ((try dsimp only at *); omega)))
      exact ⟨Nat.zero_le _, hB34, hB36, hB29, (by simpa [T.rnL] using hst0), hs136⟩
    · rintro x w135 ⟨hk, hB137, hB138, hB139, ho140, hc141⟩
      refine WC.seq ?_
      refine WC.region ?_
      refine WL.val (.bool ((decide ((((x.1 : Nat) : Int) : Int) < (((l.length : Nat) : Int) : Int))))) rfl rfl rfl (fun za zC zh zk => lss_3 rfl (zh.ev rfl) (zh.ev rfl) zk) ?_
      refine WL.nil (WE.sub (K' := [(0, .agg #[.int .i64 f, .slice pa0 l.length pc0]), (1, .func (.func 54) #[] #[.pointer (some ⟨gn, 0, none⟩), .pointer (some ⟨gs, 0, none⟩)]), (2, .pointer (some ⟨g2, 0, none⟩)), (4, .pointer (some ⟨g9, 0, none⟩)), (5, .pointer (some ⟨g18, 0, none⟩)), (13, .bool ((decide ((f : Int) < (0 : Int))))), (22, .slice pa0 l.length pc0), (23, .int .i64 (((l.length : Nat) : Int))), (24, .int .i64 (((x.1 : Nat) : Int))), (25, .bool ((decide ((((x.1 : Nat) : Int) : Int) < (((l.length : Nat) : Int) : Int)))))]) ⟨rfl, rfl, rfl, rfl, rfl, rfl, rfl, rfl, rfl, rfl, trivial⟩ ?_)
      refine WE.next ?_
      refine WC.seq ?_
      refine WC.cond rfl (fun h142 => ?_) (fun h142 => ?_)
      · have h142 : (((x.1 : Nat) : Int) : Int) < (((l.length : Nat) : Int) : Int) := by simpa using h142
        refine WC.skip ?_
        refine WE.next ?_
        refine WC.seq ?_
        refine WC.block ?_
        refine WC.seq ?_
        have hs143 : Chg ((fun b => (C b ∧ b < w.heap.size) ∨ w.heap.size ≤ b)) w w135 := (Chg.trans2 (Chg.refl ((fun b => (C b ∧ b < w.heap.size) ∨ w.heap.size ≤ b)) _) hc141 (fun i h1 h2 => by first | exact h2 | exact .inl ⟨h2, h1⟩ | exact .inl h2 | exact .inr h2 | exact .inr (.inl h2) | exact .inr (.inr h2) | ((try dsimp only at *); omega)))
        obtain ⟨pb, po, hpa, hpk⟩ := InTp.arg (b := 0) (o := 0) (ht0.chg hs143 hA0) x.1 (by simp; omega)
        obtain ⟨pka, pkc, hpk1, hpk2, hpk3⟩ := InTp.at9 hpk
        simp only [T.args_mk] at hpk1 hpk2 hpk3
        have hpz := T.size_le_sizeL (tget_mem (l := l) (k := x.1) (by omega))
        have hst1 := sizeL_take1 (l := l) (k := x.1) (by omega)
        have hst2 := T.sizeL_take_le l (x.1 + 1)
        have hrl := T.rnL_len' (l.take x.1) ns
        refine WC.region ?_
        refine WL.val (.pointer (some ⟨pb, po + x.1 * 2, none⟩)) rfl rfl rfl (fun za zC zh zk => ix_30 (k := x.1) rfl (zh.ev rfl) hpa (zh.ev rfl) (by first | omega | (simp; omega)) zk) ?_
        refine WL.val (.agg #[.int .i64 ((tget l x.1).f), .slice pka ((tget l x.1).args.length) pkc]) rfl rfl rfl (fun za zC zh zk => ld_32 rfl (zh.ev rfl) hpk1 hpk2 zk) ?_
        refine WL.step (post := NewBlk w135 32 #[.int .i64 0, .slice none 0 0]) rfl rfl rfl (fun za zC zh zk => alloc_32 rfl (zk _ _ (newBlk _ _ _))) ?_
        rintro _ w144 ⟨g145, rfl, hg146, hB147, hb148, hz149⟩
        have hl150 : g2 < g145 := by have z1 := hB137.lt; omega
        have hl151 : g9 < g145 := by have z1 := hB138.lt; omega
        have hl152 : g18 < g145 := by have z1 := hB139.lt; omega
        have hl153 : w135.heap.size ≤ g145 := by omega
        refine WL.step (post := fun _ w' => Upd g145 w144 w' ∧ Blk w' g145 32 #[.int .i64 ((tget l x.1).f), .slice pka ((tget l x.1).args.length) pkc]) rfl rfl rfl (fun za zC zh zk => st_32 rfl (zh.ev rfl) (zh.ev rfl) rfl rfl hB147 (by first | decide | simp) (fun v => zk v _ ⟨(Upd.at_ _ _ _ _).trans (Upd.at_ _ _ _ _), (hB147.set_ 0 _).set_ 1 _⟩)) ?_
        rintro v157 w154 ⟨hu155, hB156⟩
        have hb158 := upd_below hb148 hu155 (by omega)
        have hB159 := hB137.below hb148
        have hB160 := upd_blk hB159 hu155 (by omega)
        have hB161 := hB138.below hb148
        have hB162 := upd_blk hB161 hu155 (by omega)
        have hB163 := hB139.below hb148
        have hB164 := upd_blk hB163 hu155 (by omega)
        refine WL.nil (WE.sub (K' := [(0, .agg #[.int .i64 f, .slice pa0 l.length pc0]), (1, .func (.func 54) #[] #[.pointer (some ⟨gn, 0, none⟩), .pointer (some ⟨gs, 0, none⟩)]), (2, .pointer (some ⟨g2, 0, none⟩)), (4, .pointer (some ⟨g9, 0, none⟩)), (5, .pointer (some ⟨g18, 0, none⟩)), (7, .pointer (some ⟨g145, 0, none⟩)), (13, .bool ((decide ((f : Int) < (0 : Int))))), (22, .slice pa0 l.length pc0), (23, .int .i64 (((l.length : Nat) : Int))), (24, .int .i64 (((x.1 : Nat) : Int))), (25, .bool ((decide ((((x.1 : Nat) : Int) : Int) < (((l.length : Nat) : Int) : Int)))))]) ⟨rfl, rfl, rfl, rfl, rfl, rfl, rfl, rfl, rfl, rfl, rfl, trivial⟩ ?_)
        refine WE.next ?_
        have hl165 : g2 < w154.heap.size := hB160.lt
        have hl166 : g9 < w154.heap.size := hB162.lt
        have hl167 : g18 < w154.heap.size := hB164.lt
        have hl168 : g145 < w154.heap.size := hB156.lt
        have hl169 : w135.heap.size ≤ g145 := by have z : w135.heap.size ≤ w135.heap.size := (Nat.le_refl _); omega
        have hw0 : w.heap.size ≤ w154.heap.size := (Nat.le_trans hc141.size hb158.size)
        obtain ⟨Ck, hk1, hk2, hk30, hk4⟩ := (RnSt.mono (N' := (fun b => w.heap.size ≤ b ∧ b ≠ g2 ∧ b ≠ g9 ∧ b ≠ g18 ∧ b ≠ g145)) ho140 (fun b q z => by (try dsimp only at *); omega)).below hb158
        have hkl : ∀ b, (Value.slice x.2.1 x.1 x.2.2).ownBlock = some b → b < w154.heap.size := hk30.lt
        have hk3 := hk30.mono (S' := fun b => ((fun b => w.heap.size ≤ b ∧ b ≠ g2 ∧ b ≠ g9 ∧ b ≠ g18 ∧ b ≠ g145) b ∧ ¬ Ck b ∧ (Value.slice x.2.1 x.1 x.2.2).ownBlock ≠ some b) ∧ b < w154.heap.size) (fun b q z => ⟨q, z⟩) (fun b q => q.1.2.2)
        have hnC : ∀ b, Ck b → b < w.heap.size ∨ (fun b => w.heap.size ≤ b ∧ b ≠ g2 ∧ b ≠ g9 ∧ b ≠ g18 ∧ b ≠ g145) b := fun b q => (hk2 b q).imp (hClt b) id
        have hnA : ∀ b, (A b ∧ b < w.heap.size) → ¬ (fun b => Ck b ∨ (Value.slice x.2.1 x.1 x.2.2).ownBlock = some b ∨ b = g18) b := fun b q q2 => by
          rcases q2 with q2 | q2 | q2
          · rcases hk2 b q2 with z | z
            · exact hA b q.1 z
            · (try dsimp only at z); omega
          · have z := (hk4 b q2).1; (try dsimp only at z); omega
          · omega
        have hns170 : ¬ (fun b => Ck b ∨ (Value.slice x.2.1 x.1 x.2.2).ownBlock = some b ∨ b = g18) g2 := fun q => by
          rcases q with q | q | q
          · rcases hnC _ q with z | z
            · omega
            · (try dsimp only at z); omega
          · have z := (hk4 _ q).1; (try dsimp only at z); omega
          · omega
        have hns171 : ¬ (fun b => Ck b ∨ (Value.slice x.2.1 x.1 x.2.2).ownBlock = some b ∨ b = g18) g9 := fun q => by
          rcases q with q | q | q
          · rcases hnC _ q with z | z
            · omega
            · (try dsimp only at z); omega
          · have z := (hk4 _ q).1; (try dsimp only at z); omega
          · omega
        have hns172 : ¬ (fun b => Ck b ∨ (Value.slice x.2.1 x.1 x.2.2).ownBlock = some b ∨ b = g18) g145 := fun q => by
          rcases q with q | q | q
          · rcases hnC _ q with z | z
            · omega
            · (try dsimp only at z); omega
          · have z := (hk4 _ q).1; (try dsimp only at z); omega
          · omega
        have hn5 : ¬ Ck g18 := fun q => by rcases hnC _ q with z | z; omega; (try dsimp only at z); omega
        have ho5 : (Value.slice x.2.1 x.1 x.2.2).ownBlock ≠ some g18 := fun q => by have z := (hk4 _ q).1; (try dsimp only at z); omega
        have hcap7 := hk3.inRow
        have hcap8 := hcap7.2.2
        unfold maxLen at hcap8
        have hpk4 := InT.below hb158 hpk3
        have hGV9 : ∀ (vals : List Value) (wa wb : World), Below wa.heap.size wa wb → (fun vals wz => match vals with | [] => NmAt wz gn gs (T.rnL (l.take x.1) ns).2 Ck ∧ RowD eltT (fun b => ((fun b => w.heap.size ≤ b ∧ b ≠ g2 ∧ b ≠ g9 ∧ b ≠ g18 ∧ b ≠ g145) b ∧ ¬ Ck b ∧ (Value.slice x.2.1 x.1 x.2.2).ownBlock ≠ some b) ∧ b < w154.heap.size) wz 32 x.2.1 x.2.2 x.1 (T.rnL (l.take x.1) ns).1 ∧ Blk wz g18 32 #[.int .i64 f, .slice x.2.1 x.1 x.2.2] | [z0] => ∃ C2, NmAt wz gn gs (T.rn (tget l x.1) (T.rnL (l.take x.1) ns).2).2 C2 ∧ (∀ b, C2 b → Ck b ∨ w154.heap.size ≤ b) ∧ InT (fun b => w154.heap.size ≤ b ∧ ¬ C2 b) wz (T.rn (tget l x.1) (T.rnL (l.take x.1) ns).2).1 z0 ∧ RowD eltT (fun b => ((fun b => w.heap.size ≤ b ∧ b ≠ g2 ∧ b ≠ g9 ∧ b ≠ g18 ∧ b ≠ g145) b ∧ ¬ Ck b ∧ (Value.slice x.2.1 x.1 x.2.2).ownBlock ≠ some b) ∧ b < w154.heap.size) wz 32 x.2.1 x.2.2 x.1 (T.rnL (l.take x.1) ns).1 ∧ Blk wz g18 32 #[.int .i64 f, .slice x.2.1 x.1 x.2.2] | [_, z1] => ∃ C2 g1 cs, z1 = .slice (some ⟨g1, 0, none⟩) 1 1 ∧ Blk wz g1 32 (List.toArray cs) ∧ eltT.In (fun b => w154.heap.size ≤ b ∧ ¬ C2 b) wz (T.rn (tget l x.1) (T.rnL (l.take x.1) ns).2).1 cs ∧ NmAt wz gn gs (T.rn (tget l x.1) (T.rnL (l.take x.1) ns).2).2 C2 ∧ (∀ b, C2 b → Ck b ∨ w154.heap.size ≤ b) ∧ RowD eltT (fun b => ((fun b => w.heap.size ≤ b ∧ b ≠ g2 ∧ b ≠ g9 ∧ b ≠ g18 ∧ b ≠ g145) b ∧ ¬ Ck b ∧ (Value.slice x.2.1 x.1 x.2.2).ownBlock ≠ some b) ∧ b < w154.heap.size) wz 32 x.2.1 x.2.2 x.1 (T.rnL (l.take x.1) ns).1 ∧ Blk wz g18 32 #[.int .i64 f, .slice x.2.1 x.1 x.2.2] | [_, _, z2] => ∃ C2 ra2 rc2 Z, z2 = .slice ra2 (x.1 + 1) rc2 ∧ NmAt wz gn gs (T.rn (tget l x.1) (T.rnL (l.take x.1) ns).2).2 C2 ∧ (∀ b, C2 b → Ck b ∨ w154.heap.size ≤ b) ∧ RowD eltT Z wz 32 ra2 rc2 (x.1 + 1) ((T.rnL (l.take x.1) ns).1 ++ [(T.rn (tget l x.1) (T.rnL (l.take x.1) ns).2).1]) ∧ (∀ b, Z b → ((fun b => w.heap.size ≤ b ∧ b ≠ g2 ∧ b ≠ g9 ∧ b ≠ g18 ∧ b ≠ g145) b ∧ ¬ Ck b ∧ b < w154.heap.size) ∨ (w154.heap.size ≤ b ∧ ¬ C2 b)) ∧ (∀ b, (Value.slice ra2 (x.1 + 1) rc2).ownBlock = some b → (Value.slice x.2.1 x.1 x.2.2).ownBlock = some b ∨ (w154.heap.size ≤ b ∧ ¬ C2 b)) ∧ Blk wz g18 32 #[.int .i64 f, .slice x.2.1 x.1 x.2.2] | [_, _, z2, _] => ∃ C2 ra2 rc2 Z, z2 = .slice ra2 (x.1 + 1) rc2 ∧ NmAt wz gn gs (T.rn (tget l x.1) (T.rnL (l.take x.1) ns).2).2 C2 ∧ (∀ b, C2 b → Ck b ∨ w154.heap.size ≤ b) ∧ RowD eltT Z wz 32 ra2 rc2 (x.1 + 1) ((T.rnL (l.take x.1) ns).1 ++ [(T.rn (tget l x.1) (T.rnL (l.take x.1) ns).2).1]) ∧ (∀ b, Z b → ((fun b => w.heap.size ≤ b ∧ b ≠ g2 ∧ b ≠ g9 ∧ b ≠ g18 ∧ b ≠ g145) b ∧ ¬ Ck b ∧ b < w154.heap.size) ∨ (w154.heap.size ≤ b ∧ ¬ C2 b)) ∧ (∀ b, (Value.slice ra2 (x.1 + 1) rc2).ownBlock = some b → (Value.slice x.2.1 x.1 x.2.2).ownBlock = some b ∨ (w154.heap.size ≤ b ∧ ¬ C2 b)) ∧ Blk wz g18 32 #[.int .i64 f, .slice ra2 (x.1 + 1) rc2] | _ => False) vals wa → (fun vals wz => match vals with | [] => NmAt wz gn gs (T.rnL (l.take x.1) ns).2 Ck ∧ RowD eltT (fun b => ((fun b => w.heap.size ≤ b ∧ b ≠ g2 ∧ b ≠ g9 ∧ b ≠ g18 ∧ b ≠ g145) b ∧ ¬ Ck b ∧ (Value.slice x.2.1 x.1 x.2.2).ownBlock ≠ some b) ∧ b < w154.heap.size) wz 32 x.2.1 x.2.2 x.1 (T.rnL (l.take x.1) ns).1 ∧ Blk wz g18 32 #[.int .i64 f, .slice x.2.1 x.1 x.2.2] | [z0] => ∃ C2, NmAt wz gn gs (T.rn (tget l x.1) (T.rnL (l.take x.1) ns).2).2 C2 ∧ (∀ b, C2 b → Ck b ∨ w154.heap.size ≤ b) ∧ InT (fun b => w154.heap.size ≤ b ∧ ¬ C2 b) wz (T.rn (tget l x.1) (T.rnL (l.take x.1) ns).2).1 z0 ∧ RowD eltT (fun b => ((fun b => w.heap.size ≤ b ∧ b ≠ g2 ∧ b ≠ g9 ∧ b ≠ g18 ∧ b ≠ g145) b ∧ ¬ Ck b ∧ (Value.slice x.2.1 x.1 x.2.2).ownBlock ≠ some b) ∧ b < w154.heap.size) wz 32 x.2.1 x.2.2 x.1 (T.rnL (l.take x.1) ns).1 ∧ Blk wz g18 32 #[.int .i64 f, .slice x.2.1 x.1 x.2.2] | [_, z1] => ∃ C2 g1 cs, z1 = .slice (some ⟨g1, 0, none⟩) 1 1 ∧ Blk wz g1 32 (List.toArray cs) ∧ eltT.In (fun b => w154.heap.size ≤ b ∧ ¬ C2 b) wz (T.rn (tget l x.1) (T.rnL (l.take x.1) ns).2).1 cs ∧ NmAt wz gn gs (T.rn (tget l x.1) (T.rnL (l.take x.1) ns).2).2 C2 ∧ (∀ b, C2 b → Ck b ∨ w154.heap.size ≤ b) ∧ RowD eltT (fun b => ((fun b => w.heap.size ≤ b ∧ b ≠ g2 ∧ b ≠ g9 ∧ b ≠ g18 ∧ b ≠ g145) b ∧ ¬ Ck b ∧ (Value.slice x.2.1 x.1 x.2.2).ownBlock ≠ some b) ∧ b < w154.heap.size) wz 32 x.2.1 x.2.2 x.1 (T.rnL (l.take x.1) ns).1 ∧ Blk wz g18 32 #[.int .i64 f, .slice x.2.1 x.1 x.2.2] | [_, _, z2] => ∃ C2 ra2 rc2 Z, z2 = .slice ra2 (x.1 + 1) rc2 ∧ NmAt wz gn gs (T.rn (tget l x.1) (T.rnL (l.take x.1) ns).2).2 C2 ∧ (∀ b, C2 b → Ck b ∨ w154.heap.size ≤ b) ∧ RowD eltT Z wz 32 ra2 rc2 (x.1 + 1) ((T.rnL (l.take x.1) ns).1 ++ [(T.rn (tget l x.1) (T.rnL (l.take x.1) ns).2).1]) ∧ (∀ b, Z b → ((fun b => w.heap.size ≤ b ∧ b ≠ g2 ∧ b ≠ g9 ∧ b ≠ g18 ∧ b ≠ g145) b ∧ ¬ Ck b ∧ b < w154.heap.size) ∨ (w154.heap.size ≤ b ∧ ¬ C2 b)) ∧ (∀ b, (Value.slice ra2 (x.1 + 1) rc2).ownBlock = some b → (Value.slice x.2.1 x.1 x.2.2).ownBlock = some b ∨ (w154.heap.size ≤ b ∧ ¬ C2 b)) ∧ Blk wz g18 32 #[.int .i64 f, .slice x.2.1 x.1 x.2.2] | [_, _, z2, _] => ∃ C2 ra2 rc2 Z, z2 = .slice ra2 (x.1 + 1) rc2 ∧ NmAt wz gn gs (T.rn (tget l x.1) (T.rnL (l.take x.1) ns).2).2 C2 ∧ (∀ b, C2 b → Ck b ∨ w154.heap.size ≤ b) ∧ RowD eltT Z wz 32 ra2 rc2 (x.1 + 1) ((T.rnL (l.take x.1) ns).1 ++ [(T.rn (tget l x.1) (T.rnL (l.take x.1) ns).2).1]) ∧ (∀ b, Z b → ((fun b => w.heap.size ≤ b ∧ b ≠ g2 ∧ b ≠ g9 ∧ b ≠ g18 ∧ b ≠ g145) b ∧ ¬ Ck b ∧ b < w154.heap.size) ∨ (w154.heap.size ≤ b ∧ ¬ C2 b)) ∧ (∀ b, (Value.slice ra2 (x.1 + 1) rc2).ownBlock = some b → (Value.slice x.2.1 x.1 x.2.2).ownBlock = some b ∨ (w154.heap.size ≤ b ∧ ¬ C2 b)) ∧ Blk wz g18 32 #[.int .i64 f, .slice ra2 (x.1 + 1) rc2] | _ => False) vals wb := by
          intro vals wa wb hb h
          match vals, h with
          | [], h => exact ⟨h.1.below hb, h.2.1.below hb, h.2.2.below hb⟩
          | [z0], h =>
            obtain ⟨C2, k1, k2, k3, k4, k5⟩ := h
            exact ⟨C2, k1.below hb, k2, k3.below hb, k4.below hb, k5.below hb⟩
          | [_, z1], h =>
            obtain ⟨C2, g1, cs, e, k0, k3, k1, k2, k4, k5⟩ := h
            exact ⟨C2, g1, cs, e, k0.below hb, Elt.below (E := eltT) k3 hb, k1.below hb, k2, k4.below hb, k5.below hb⟩
          | [_, _, z2], h =>
            obtain ⟨C2, ra2, rc2, Z, e, k1, k2, k3, k4, k5, k6⟩ := h
            exact ⟨C2, ra2, rc2, Z, e, k1.below hb, k2, k3.below hb, k4, k5, k6.below hb⟩
          | [_, _, z2, _], h =>
            obtain ⟨C2, ra2, rc2, Z, e, k1, k2, k3, k4, k5, k6⟩ := h
            exact ⟨C2, ra2, rc2, Z, e, k1.below hb, k2, k3.below hb, k4, k5, k6.below hb⟩
        refine WC.seqV (S := ((fun b => Ck b ∨ (Value.slice x.2.1 x.1 x.2.2).ownBlock = some b ∨ b = g18))) [(true, .val (.pointer (some ⟨g18, 1, none⟩))), (true, .val (.slice x.2.1 x.1 x.2.2)), (true, .val (.agg #[.int .i64 ((tget l x.1).f), .slice pka ((tget l x.1).args.length) pkc])), (true, .val (.func (.func 54) #[] #[.pointer (some ⟨gn, 0, none⟩), .pointer (some ⟨gs, 0, none⟩)])), (true, .val undef), (true, .val undef), (true, .val undef), (true, .val (.pointer (some ⟨g18, 1, none⟩))), (true, .val undef)] [(0, .agg #[.int .i64 f, .slice pa0 l.length pc0]), (1, .func (.func 54) #[] #[.pointer (some ⟨gn, 0, none⟩), .pointer (some ⟨gs, 0, none⟩)]), (2, .pointer (some ⟨g2, 0, none⟩)), (4, .pointer (some ⟨g9, 0, none⟩)), (5, .pointer (some ⟨g18, 0, none⟩)), (7, .pointer (some ⟨g145, 0, none⟩)), (13, .bool ((decide ((f : Int) < (0 : Int))))), (22, .slice pa0 l.length pc0), (23, .int .i64 (((l.length : Nat) : Int))), (24, .int .i64 (((x.1 : Nat) : Int))), (25, .bool ((decide ((((x.1 : Nat) : Int) : Int) < (((l.length : Nat) : Int) : Int)))))] [4, 5, 6, 8] [none, none, none, none] (fun vals wz => match vals with | [] => NmAt wz gn gs (T.rnL (l.take x.1) ns).2 Ck ∧ RowD eltT (fun b => ((fun b => w.heap.size ≤ b ∧ b ≠ g2 ∧ b ≠ g9 ∧ b ≠ g18 ∧ b ≠ g145) b ∧ ¬ Ck b ∧ (Value.slice x.2.1 x.1 x.2.2).ownBlock ≠ some b) ∧ b < w154.heap.size) wz 32 x.2.1 x.2.2 x.1 (T.rnL (l.take x.1) ns).1 ∧ Blk wz g18 32 #[.int .i64 f, .slice x.2.1 x.1 x.2.2] | [z0] => ∃ C2, NmAt wz gn gs (T.rn (tget l x.1) (T.rnL (l.take x.1) ns).2).2 C2 ∧ (∀ b, C2 b → Ck b ∨ w154.heap.size ≤ b) ∧ InT (fun b => w154.heap.size ≤ b ∧ ¬ C2 b) wz (T.rn (tget l x.1) (T.rnL (l.take x.1) ns).2).1 z0 ∧ RowD eltT (fun b => ((fun b => w.heap.size ≤ b ∧ b ≠ g2 ∧ b ≠ g9 ∧ b ≠ g18 ∧ b ≠ g145) b ∧ ¬ Ck b ∧ (Value.slice x.2.1 x.1 x.2.2).ownBlock ≠ some b) ∧ b < w154.heap.size) wz 32 x.2.1 x.2.2 x.1 (T.rnL (l.take x.1) ns).1 ∧ Blk wz g18 32 #[.int .i64 f, .slice x.2.1 x.1 x.2.2] | [_, z1] => ∃ C2 g1 cs, z1 = .slice (some ⟨g1, 0, none⟩) 1 1 ∧ Blk wz g1 32 (List.toArray cs) ∧ eltT.In (fun b => w154.heap.size ≤ b ∧ ¬ C2 b) wz (T.rn (tget l x.1) (T.rnL (l.take x.1) ns).2).1 cs ∧ NmAt wz gn gs (T.rn (tget l x.1) (T.rnL (l.take x.1) ns).2).2 C2 ∧ (∀ b, C2 b → Ck b ∨ w154.heap.size ≤ b) ∧ RowD eltT (fun b => ((fun b => w.heap.size ≤ b ∧ b ≠ g2 ∧ b ≠ g9 ∧ b ≠ g18 ∧ b ≠ g145) b ∧ ¬ Ck b ∧ (Value.slice x.2.1 x.1 x.2.2).ownBlock ≠ some b) ∧ b < w154.heap.size) wz 32 x.2.1 x.2.2 x.1 (T.rnL (l.take x.1) ns).1 ∧ Blk wz g18 32 #[.int .i64 f, .slice x.2.1 x.1 x.2.2] | [_, _, z2] => ∃ C2 ra2 rc2 Z, z2 = .slice ra2 (x.1 + 1) rc2 ∧ NmAt wz gn gs (T.rn (tget l x.1) (T.rnL (l.take x.1) ns).2).2 C2 ∧ (∀ b, C2 b → Ck b ∨ w154.heap.size ≤ b) ∧ RowD eltT Z wz 32 ra2 rc2 (x.1 + 1) ((T.rnL (l.take x.1) ns).1 ++ [(T.rn (tget l x.1) (T.rnL (l.take x.1) ns).2).1]) ∧ (∀ b, Z b → ((fun b => w.heap.size ≤ b ∧ b ≠ g2 ∧ b ≠ g9 ∧ b ≠ g18 ∧ b ≠ g145) b ∧ ¬ Ck b ∧ b < w154.heap.size) ∨ (w154.heap.size ≤ b ∧ ¬ C2 b)) ∧ (∀ b, (Value.slice ra2 (x.1 + 1) rc2).ownBlock = some b → (Value.slice x.2.1 x.1 x.2.2).ownBlock = some b ∨ (w154.heap.size ≤ b ∧ ¬ C2 b)) ∧ Blk wz g18 32 #[.int .i64 f, .slice x.2.1 x.1 x.2.2] | [_, _, z2, _] => ∃ C2 ra2 rc2 Z, z2 = .slice ra2 (x.1 + 1) rc2 ∧ NmAt wz gn gs (T.rn (tget l x.1) (T.rnL (l.take x.1) ns).2).2 C2 ∧ (∀ b, C2 b → Ck b ∨ w154.heap.size ≤ b) ∧ RowD eltT Z wz 32 ra2 rc2 (x.1 + 1) ((T.rnL (l.take x.1) ns).1 ++ [(T.rn (tget l x.1) (T.rnL (l.take x.1) ns).2).1]) ∧ (∀ b, Z b → ((fun b => w.heap.size ≤ b ∧ b ≠ g2 ∧ b ≠ g9 ∧ b ≠ g18 ∧ b ≠ g145) b ∧ ¬ Ck b ∧ b < w154.heap.size) ∨ (w154.heap.size ≤ b ∧ ¬ C2 b)) ∧ (∀ b, (Value.slice ra2 (x.1 + 1) rc2).ownBlock = some b → (Value.slice x.2.1 x.1 x.2.2).ownBlock = some b ∨ (w154.heap.size ≤ b ∧ ¬ C2 b)) ∧ Blk wz g18 32 #[.int .i64 f, .slice ra2 (x.1 + 1) rc2] | _ => False) hGV9 (by decide) ⟨rfl, rfl, rfl, rfl, rfl, rfl, rfl, rfl, rfl, rfl, rfl, trivial⟩ (by kernel_rfl) (by kernel_rfl) (by kernel_rfl) (by kernel_rfl) (⟨hk1, hk3, hB164⟩) ?_ ?_
        · refine ⟨.inl ⟨rfl, true, .none rfl, (fun gg b h => by cases h), fun h w => optUndef h, fun zβ za zw zc => ?_⟩, ?_⟩
          · exact fld_32_1 rfl (zc.kn.ev rfl) ⟨_, rfl, Below.refl _ _, optDef zβ rfl⟩
          refine ⟨.inl ⟨rfl, true, .none rfl, (fun gg b h => by cases h), fun h w => optUndef h, fun zβ za zw zc => ?_⟩, ?_⟩
          · obtain ⟨vals, hle, hgv, _⟩ := zc.early 2 6 rfl (by kernel_rfl)
            have hb5 : Blk zw g18 32 #[.int .i64 f, .slice x.2.1 x.1 x.2.2] := by
              match vals, hle, hgv with
              | [], _, hg => exact hg.2.2
              | [z0], _, hg => obtain ⟨C2, k1, k2, k3, k4, k5⟩ := hg; exact k5
              | [_, z1], _, hg => obtain ⟨C2, g1, cs, e, k0, k3, k1, k2, k4, k5⟩ := hg; exact k5
            exact ld_30 rfl ((show za.eval (.tmp 28) = za.tmps.getD 28 undef from rfl).trans (optSVal (zc.dep 0 28 (by kernel_rfl) (by decide)) rfl rfl)) ((hb5.cell 1).trans rfl) ⟨_, rfl, Below.refl _ _, optDef zβ rfl⟩
          refine ⟨.inl ⟨rfl, true, .none rfl, (fun gg b h => by cases h), fun h w => optUndef h, fun zβ za zw zc => ?_⟩, ?_⟩
          · exact ld_32 rfl (zc.kn.ev rfl) (chg_cell zc.chg (by first | assumption | ((try dsimp only at *); omega)) ((hB156.cell 0).trans rfl)) (chg_cell zc.chg (by first | assumption | ((try dsimp only at *); omega)) ((hB156.cell 1).trans rfl)) ⟨_, rfl, Below.refl _ _, optDef zβ rfl⟩
          refine ⟨.inl ⟨rfl, true, .none rfl, (fun gg b h => by cases h), fun h w => optUndef h, fun zβ za zw zc => ?_⟩, ?_⟩
          · exact wp_move rfl (zc.kn.ev rfl) ⟨_, rfl, Below.refl _ _, optDef zβ rfl⟩
          refine ⟨.inr ⟨0, rfl, by kernel_rfl, true, .none rfl, (fun gg b h => by cases h), (fun h => (nomatch h)), fun zβ za zw zvals zc => ?_⟩, ?_⟩
          · obtain rfl := vlen0 zc.len
            have zn := zc.now
            exact wp_call (by kernel_rfl) rfl (hv2 ((show za.eval (.tmp 30) = za.tmps.getD 30 undef from rfl).trans (optSVal (zc.dep 2 30 (by kernel_rfl) (by decide)) rfl rfl)) ((show za.eval (.tmp 31) = za.tmps.getD 31 undef from rfl).trans (optSVal (zc.dep 3 31 (by kernel_rfl) (by decide)) rfl rfl))) (ih (tget l x.1) (tget_mem (by omega)) gn gs (T.rnL (l.take x.1) ns).2 Ck (fun b => A b ∧ b < w.heap.size) _ _ zn.1 (hpk4.chg zc.chg hnA) (fun b q q2 => hnA b q (.inl q2)) (by omega) (by omega)) (fun v w' h => by obtain ⟨⟨C2, k1, k2, k3⟩, k4⟩ := h; exact ⟨v, rfl, k4.mono (fun b q => .inl q), ⟨C2, k1, fun b q => (k2 b q).imp id (fun q => Nat.le_trans zc.chg.size q), k3.mono (fun b q _ => ⟨Nat.le_trans zc.chg.size q.1, q.2⟩), zn.2.1.chg k4 (fun b q => (hk4 b q).2) (fun b q => q.1.2.1), chg_blk zn.2.2 k4 hn5⟩, cvNo⟩)
          refine ⟨.inr ⟨1, rfl, by kernel_rfl, true, .none rfl, (fun gg b h => by cases h), (fun h => (nomatch h)), fun zβ za zw zvals zc => ?_⟩, ?_⟩
          · obtain ⟨z0, rfl⟩ := vlen1 zc.len
            have zn := zc.now
            obtain ⟨C2, k1, k2, k3, k4, k5⟩ := zn
            have e0 : z0 = za.tmps.getD 32 undef := Option.some.inj (zc.val 0 4 32 rfl (by kernel_rfl))
            obtain ⟨_, fa, fc, ef, _⟩ := k3.form
            have k3b := k3
            rw [ef] at k3b
            exact row_30_1 rfl ((show za.eval (.tmp 32) = za.tmps.getD 32 undef from rfl).trans (e0.symm.trans ef)) ⟨_, rfl, .ofBelow (balloc _ _), ⟨C2, _, _, rfl, Blk.new' rfl, ⟨_, _, rfl, k3b.below (balloc _ _)⟩, k1.below (balloc _ _), k2, k4.below (balloc _ _), k5.below (balloc _ _)⟩, cvNo⟩
          refine ⟨.inr ⟨2, rfl, by kernel_rfl, true, .none rfl, (fun gg b h => by cases h), (fun h => (nomatch h)), fun zβ za zw zvals zc => ?_⟩, ?_⟩
          · obtain ⟨z0, z1, rfl⟩ := vlen2 zc.len
            have zn := zc.now
            obtain ⟨C2, g1, cs, e, k0, k3, k1, k2, k4, k5⟩ := zn
            have e1 : z1 = za.tmps.getD 33 undef := Option.some.inj (zc.val 1 5 33 rfl (by kernel_rfl))
            exact wp_appD (E := eltT) (S2 := (fun b => w154.heap.size ≤ b ∧ ¬ C2 b)) (size := 2) (bytes := 32) (z := .agg #[.int .i64 0, .slice none 0 0]) rfl Try.underlying30 (by kernel_rfl) rfl (by decide) rfl ((show za.eval (.tmp 29) = za.tmps.getD 29 undef from rfl).trans (optSVal (zc.dep 1 29 (by kernel_rfl) (by decide)) rfl rfl)) ((show za.eval (.tmp 33) = za.tmps.getD 33 undef from rfl).trans (e1.symm.trans e)) k4 k0 k3 (fun b q q2 => by have z := hkl b q2; (try dsimp only at q); omega) (by omega) (by omega) (fun ra rc w' h1 h2 h3 => ⟨_, rfl, h2.mono (fun b q => .inr (.inl q)), ⟨C2, ra, rc, _, rfl, k1.chg h2 (fun b q q2 => by rcases k2 b q with z | z; exact (hk4 b q2).2 z; (have z2 := hkl b q2; omega)), k2, h1, fun b q => q.1.imp (fun q => ⟨q.1.1, q.1.2.1, q.2⟩) id, fun b q => (h3 b q).imp id (fun q2 => ⟨Nat.le_trans zc.chg.size q2, fun q3 => by have z := k1.clt b q3; omega⟩), chg_blk k5 h2 ho5⟩, cvNo⟩)
          refine ⟨.inl ⟨rfl, true, .none rfl, (fun gg b h => by cases h), fun h w => optUndef h, fun zβ za zw zc => ?_⟩, ?_⟩
          · exact fld_32_1 rfl (zc.kn.ev rfl) ⟨_, rfl, Below.refl _ _, optDef zβ rfl⟩
          refine ⟨.inr ⟨3, rfl, by kernel_rfl, true, .none rfl, (fun gg b h => by cases h), (fun h => (nomatch h)), fun zβ za zw zvals zc => ?_⟩, ?_⟩
          · obtain ⟨z0, z1, z2, rfl⟩ := vlen3 zc.len
            have zn := zc.now
            obtain ⟨C2, ra2, rc2, Z, e, k1, k2, k3, k4, k5, k6⟩ := zn
            have e2 : z2 = za.tmps.getD 34 undef := Option.some.inj (zc.val 2 6 34 rfl (by kernel_rfl))
            have n5 : ¬ C2 g18 := fun q => by rcases k2 _ q with z | z; exact hn5 z; omega
            have nz : ¬ Z g18 := fun q => by rcases k4 _ q with z | z; (have z1 := z.1; (try dsimp only at z1); omega); omega
            have no : (Value.slice ra2 (x.1 + 1) rc2).ownBlock ≠ some g18 := fun q => by rcases k5 _ q with z | z; exact ho5 z; omega
            exact st_30 rfl ((show za.eval (.tmp 35) = za.tmps.getD 35 undef from rfl).trans (optSVal (zc.dep 7 35 (by kernel_rfl) (by decide)) rfl rfl)) ((show za.eval (.tmp 34) = za.tmps.getD 34 undef from rfl).trans (e2.symm.trans e)) k6 (by first | decide | simp) (fun v => ⟨v, rfl, .ofUpd (Upd.at_ _ _ _ _) (.inr (.inr rfl)), ⟨C2, ra2, rc2, Z, e, k1.chg (.ofUpd (S := fun b => b = g18) (Upd.at_ _ _ _ _) rfl) (fun b q e => n5 (by subst e; exact q)), k2, k3.chg (.ofUpd (S := fun b => b = g18) (Upd.at_ _ _ _ _) rfl) (fun b q e => no (by subst e; exact q)) (fun b q e => nz (by subst e; exact q)), k4, k5, k6.set_ 1 _⟩, cvNo⟩)
          exact trivial
        · intro za w173 zvals zh zl hG174 hc175 zu zw zk
          obtain ⟨z0, z1, z2, z3, rfl⟩ := vlen4 zl
          obtain ⟨C176, ra177, rc178, Z179, e180, k181, k182, k183, k184, k185, k186⟩ := hG174
          have hst187 : RnSt C (fun b => w.heap.size ≤ b ∧ b ≠ g2 ∧ b ≠ g9 ∧ b ≠ g18 ∧ b ≠ g145) gn gs (T.rn (tget l x.1) (T.rnL (l.take x.1) ns).2).2 ((T.rnL (l.take x.1) ns).1 ++ [(T.rn (tget l x.1) (T.rnL (l.take x.1) ns).2).1]) ra177 rc178 (x.1 + 1) w173 := RnSt.join hk2 hk4 hkl (fun b q => by (try dsimp only); omega) k181 k182 k183 k184 k185
          have hB188 := chg_blk hB160 hc175 (by assumption)
          have hB189 := chg_blk hB162 hc175 (by assumption)
          have hB190 := chg_blk hB156 hc175 (by assumption)
          have hcs191 : Chg (fun b => (C b ∧ b < w.heap.size) ∨ w.heap.size ≤ b) w154 w173 := hc175.mono (fun b q => by
            rcases q with q | q | q
            · rcases hk2 b q with z | z
              · exact .inl ⟨z, hClt b z⟩
              · exact .inr z.1
            · exact .inr (hk4 b q).1.1
            · exact .inr (by omega))
          clear zu zw zk
          refine (show WE _ [(0, .agg #[.int .i64 f, .slice pa0 l.length pc0]), (1, .func (.func 54) #[] #[.pointer (some ⟨gn, 0, none⟩), .pointer (some ⟨gs, 0, none⟩)]), (2, .pointer (some ⟨g2, 0, none⟩)), (4, .pointer (some ⟨g9, 0, none⟩)), (5, .pointer (some ⟨g18, 0, none⟩)), (7, .pointer (some ⟨g145, 0, none⟩)), (13, .bool ((decide ((f : Int) < (0 : Int))))), (22, .slice pa0 l.length pc0), (23, .int .i64 (((l.length : Nat) : Int))), (24, .int .i64 (((x.1 : Nat) : Int))), (25, .bool ((decide ((((x.1 : Nat) : Int) : Int) < (((l.length : Nat) : Int) : Int)))))] w173 _ .normal from ?_) za (zh.sub ⟨rfl, rfl, rfl, rfl, rfl, rfl, rfl, rfl, rfl, rfl, rfl, trivial⟩)
          refine WE.blockNormal ?_
          refine WE.next ?_
          refine WC.region ?_
          refine WL.val (.int .i64 ((((x.1 + 1) : Nat) : Int))) rfl rfl rfl (fun za zC zh zk => addb_3 rfl (zh.ev rfl) (zh.ev rfl) (wrap_eq (by omega) (by omega) (by omega)) zk) ?_
          refine WL.val (.int .i64 ((((x.1 + 1) : Nat) : Int))) rfl rfl rfl (fun za zC zh zk => wp_move rfl (zh.ev rfl) zk) ?_
          refine WL.nil (WE.sub (K' := [(0, .agg #[.int .i64 f, .slice pa0 l.length pc0]), (1, .func (.func 54) #[] #[.pointer (some ⟨gn, 0, none⟩), .pointer (some ⟨gs, 0, none⟩)]), (2, .pointer (some ⟨g2, 0, none⟩)), (4, .pointer (some ⟨g9, 0, none⟩)), (5, .pointer (some ⟨g18, 0, none⟩)), (7, .pointer (some ⟨g145, 0, none⟩)), (13, .bool ((decide ((f : Int) < (0 : Int))))), (22, .slice pa0 l.length pc0), (23, .int .i64 (((l.length : Nat) : Int))), (24, .int .i64 ((((x.1 + 1) : Nat) : Int))), (25, .bool ((decide ((((x.1 : Nat) : Int) : Int) < (((l.length : Nat) : Int) : Int)))))]) ⟨rfl, rfl, rfl, rfl, rfl, rfl, rfl, rfl, rfl, rfl, rfl, trivial⟩ ?_)
          refine WE.round ((x.1 + 1, ra177, rc178)) ⟨rfl, rfl, rfl, rfl, rfl, rfl, rfl, rfl, rfl, trivial⟩ ?_ ?_
          · have hs192 : Chg ((fun b => (C b ∧ b < w.heap.size) ∨ w.heap.size ≤ b)) w w173 := (Chg.trans2 (Chg.trans2 (Chg.trans2 (Chg.refl ((fun b => (C b ∧ b < w.heap.size) ∨ w.heap.size ≤ b)) _) hc141 (fun i h1 h2 => by first | exact h2 | exact .inl ⟨h2, h1⟩ | exact .inl h2 | exact .inr h2 | exact .inr (.inl h2) | exact .inr (.inr h2) | ((try dsimp only at *); omega))) (Chg.ofBelow (S := fun k => k < 0) hb158) (fun i h1 h2 => by first | exact h2 | exact .inl ⟨h2, h1⟩ | exact .inl h2 | exact .inr h2 | exact .inr (.inl h2) | exact .inr (.inr h2) | ((try dsimp only at *); omega))) hcs191 (fun i h1 h2 => by first | exact h2 | exact .inl ⟨h2, h1⟩ | exact .inl h2 | exact .inr h2 | exact .inr (.inl h2) | exact .inr (.inr h2) | ((try dsimp only at *); omega)))
            exact ⟨by (try dsimp only); omega, hB188, hB189, k186, (by dsimp only; rw [rnL_take (by omega)]; exact RnSt.mono hst187 (fun b q _ => by (try dsimp only at *); omega)), hs192⟩
          · (try dsimp only); omega
      · have h142 : ¬ ((((x.1 : Nat) : Int) : Int) < (((l.length : Nat) : Int) : Int)) := by simpa using h142
        refine WC.exit ?_
        refine WE.thenExit ?_
        refine WE.thenExit ?_
        refine WE.blockIs rfl ?_
        refine WE.next ?_
        refine WC.seq ?_
        refine WC.region ?_
        refine WL.val (.agg #[.int .i64 f, .slice x.2.1 x.1 x.2.2]) rfl rfl rfl (fun za zC zh zk => ld_32 rfl (zh.ev rfl) ((hB139.cell 0).trans rfl) ((hB139.cell 1).trans rfl) zk) ?_
        refine WL.step (post := fun _ w' => Upd g9 w135 w' ∧ Blk w' g9 32 #[.int .i64 f, .slice x.2.1 x.1 x.2.2]) rfl rfl rfl (fun za zC zh zk => st_32 rfl (zh.ev rfl) (zh.ev rfl) rfl rfl hB138 (by first | decide | simp) (fun v => zk v _ ⟨(Upd.at_ _ _ _ _).trans (Upd.at_ _ _ _ _), (hB138.set_ 0 _).set_ 1 _⟩)) ?_
        rintro v196 w193 ⟨hu194, hB195⟩
        have hB197 := upd_blk hB137 hu194 (by omega)
        have hB198 := upd_blk hB139 hu194 (by omega)
        refine WL.nil (WE.sub (K' := [(0, .agg #[.int .i64 f, .slice pa0 l.length pc0]), (1, .func (.func 54) #[] #[.pointer (some ⟨gn, 0, none⟩), .pointer (some ⟨gs, 0, none⟩)]), (2, .pointer (some ⟨g2, 0, none⟩)), (4, .pointer (some ⟨g9, 0, none⟩)), (5, .pointer (some ⟨g18, 0, none⟩)), (13, .bool ((decide ((f : Int) < (0 : Int))))), (22, .slice pa0 l.length pc0), (23, .int .i64 (((l.length : Nat) : Int))), (24, .int .i64 (((x.1 : Nat) : Int))), (25, .bool ((decide ((((x.1 : Nat) : Int) : Int) < (((l.length : Nat) : Int) : Int)))))]) ⟨rfl, rfl, rfl, rfl, rfl, rfl, rfl, rfl, rfl, rfl, trivial⟩ ?_)
        refine WE.next ?_
        refine WC.ret ?_
        refine WE.retAny (v := .agg #[.int .i64 f, .slice x.2.1 x.1 x.2.2]) (fun za zh => ?_) ?_
        · have z0 : za.tmps[4]?.getD undef = .pointer (some ⟨g9, 0, none⟩) := by rw [← Array.getD_eq_getD_getElem?]; exact zh.knows 4 _ rfl
          have y0 : w193.cell? ⟨g9, 0, none⟩ = some (.int .i64 f) := ((hB195.cell 0).trans rfl)
          have y1 : w193.cell? ⟨g9, 1, none⟩ = some (.slice x.2.1 x.1 x.2.2) := ((hB195.cell 1).trans rfl)
          simp [results, Try.results51, z0, y0, y1, go_sem]
        · have hs199 : Chg ((fun b => b = g9)) w135 w193 := (Chg.trans2 (Chg.refl ((fun b => b = g9)) _) (Chg.ofUpd (S := fun k => k = g9) hu194 rfl) (fun i h1 h2 => by first | exact h2 | exact .inl ⟨h2, h1⟩ | exact .inl h2 | exact .inr h2 | exact .inr (.inl h2) | exact .inr (.inr h2) | ((try dsimp only at *); omega)))
          have hxk : x.1 = l.length := by omega
          have hcf := hs199
          obtain ⟨C9, m1, m2, m3, m4⟩ := RnSt.chg ho140 hcf (fun b q e => by have z := hClt b q; (try dsimp only at e); omega) (fun b q e => by (try dsimp only at q e); omega)
          have hs200 : Chg ((fun b => (C b ∧ b < w.heap.size) ∨ w.heap.size ≤ b)) w w193 := (Chg.trans2 (Chg.trans2 (Chg.refl ((fun b => (C b ∧ b < w.heap.size) ∨ w.heap.size ≤ b)) _) hc141 (fun i h1 h2 => by first | exact h2 | exact .inl ⟨h2, h1⟩ | exact .inl h2 | exact .inr h2 | exact .inr (.inl h2) | exact .inr (.inr h2) | ((try dsimp only at *); omega))) (Chg.ofUpd (S := fun k => k = g9) hu194 rfl) (fun i h1 h2 => by first | exact h2 | exact .inl ⟨h2, h1⟩ | exact .inl h2 | exact .inr h2 | exact .inr (.inl h2) | exact .inr (.inr h2) | ((try dsimp only at *); omega)))
          rw [List.take_of_length_le (by omega)] at m1 m3
          have hrn := rn_eq (f := f) (l := l) (ns := ns)
          rw [if_neg (by omega)] at hrn
          have hcw := hs200
          refine ⟨_, rfl, ⟨C9, by rw [hrn]; exact m1, fun b q => (m2 b q).imp id (fun q => q.1), by rw [hrn]; exact inT_row hf m3 (fun b q => ⟨q.1.1, q.2.1⟩) (fun b q => ⟨(m4 b q).1.1, (m4 b q).2⟩)⟩, (Chg.refl C w).trans2 hcw (fun b hl q => q.elim (fun q => q.1) (fun q => by omega))⟩

end Go.Proofs.Ytgechlgdnnpoeaa

/- The library's SortFunc of bindings, as its contract has it, at this program. -/
namespace Go.Proofs.Ytgechlgdnnpoeaa
open Go.RowKit Go.Sort Go.Shelf Go

def Try.lPdqB_ren : Go.Shelf.Ren := ⟨fun | 14 => 62 | 20 => 68 | 21 => 69 | 22 => 70 | 23 => 71 | 24 => 72 | 25 => 73 | 26 => 74 | 27 => 75 | 46 => 78 | 47 => 79 | 48 => 80 | 49 => 81 | 50 => 82 | 15 => 63 | 57 => 83 | 28 => 76 | 29 => 77 | n => n, fun | 24 => 56 | 22 => 22 | 3 => 3 | 25 => 62 | 4 => 4 | 0 => 0 | 46 => 90 | 45 => 89 | 50 => 73 | 66 => 99 | 39 => 83 | 55 => 98 | 70 => 103 | 76 => 105 | 77 => 106 | 53 => 96 | 5 => 5 | 9 => 9 | n => n, fun | n => n⟩
theorem Try.lPdqB : Go.Proofs.SlLaysF0.n14 Try.prog Try.lPdqB_ren := {
  mixed := by kernel_rfl,
  f14 := ⟨Try.f62.name, by decide, Try.func62.trans (congrArg some (by kernel_rfl))⟩,
  f15 := Try.func63.trans (congrArg some (by kernel_rfl)),
  f20 := ⟨Try.f68.name, by decide, Try.func68.trans (congrArg some (by kernel_rfl))⟩,
  f21 := ⟨Try.f69.name, by decide, Try.func69.trans (congrArg some (by kernel_rfl))⟩,
  f22 := ⟨Try.f70.name, by decide, Try.func70.trans (congrArg some (by kernel_rfl))⟩,
  f23 := ⟨Try.f71.name, by decide, Try.func71.trans (congrArg some (by kernel_rfl))⟩,
  f24 := ⟨Try.f72.name, by decide, Try.func72.trans (congrArg some (by kernel_rfl))⟩,
  f25 := ⟨Try.f73.name, by decide, Try.func73.trans (congrArg some (by kernel_rfl))⟩,
  f26 := ⟨Try.f74.name, by decide, Try.func74.trans (congrArg some (by kernel_rfl))⟩,
  f27 := ⟨Try.f75.name, by decide, Try.func75.trans (congrArg some (by kernel_rfl))⟩,
  f28 := Try.func76.trans (congrArg some (by kernel_rfl)),
  f29 := Try.func77.trans (congrArg some (by kernel_rfl)),
  f46 := ⟨Try.f78.name, by decide, Try.func78.trans (congrArg some (by kernel_rfl))⟩,
  f47 := Try.func79.trans (congrArg some (by kernel_rfl)),
  f48 := Try.func80.trans (congrArg some (by kernel_rfl)),
  f49 := ⟨Try.f81.name, by decide, Try.func81.trans (congrArg some (by kernel_rfl))⟩,
  f50 := ⟨Try.f82.name, by decide, Try.func82.trans (congrArg some (by kernel_rfl))⟩,
  f57 := ⟨Try.f83.name, by decide, Try.func83.trans (congrArg some (by kernel_rfl))⟩,
  t0 := Try.underlying0,
  a0 := Try.isAgg0,
  z0 := Try.sizeOf0,
  v0 := Try.zeroValue0,
  t3 := Try.underlying3,
  a3 := Try.isAgg3,
  z3 := Try.sizeOf3,
  v3 := Try.zeroValue3,
  t4 := Try.underlying4,
  a4 := Try.isAgg4,
  z4 := Try.sizeOf4,
  v4 := Try.zeroValue4,
  t5 := Try.underlying5,
  a5 := Try.isAgg5,
  z5 := Try.sizeOf5,
  v5 := Try.zeroValue5,
  t9 := Try.underlying9,
  a9 := Try.isAgg9,
  z9 := Try.sizeOf9,
  v9 := Try.zeroValue9,
  t22 := Try.underlying22,
  a22 := Try.isAgg22,
  z22 := Try.sizeOf22,
  v22 := Try.zeroValue22,
  t25 := Try.underlying62,
  a25 := Try.isAgg62,
  z25 := Try.sizeOf62,
  v25 := Try.zeroValue62,
  t39 := Try.underlying83,
  a39 := Try.isAgg83,
  z39 := Try.sizeOf83,
  v39 := Try.zeroValue83,
  t45 := Try.underlying89,
  a45 := Try.isAgg89,
  z45 := Try.sizeOf89,
  v45 := Try.zeroValue89,
  t46 := Try.underlying90,
  a46 := Try.isAgg90,
  z46 := Try.sizeOf90,
  v46 := Try.zeroValue90,
  t50 := Try.underlying73,
  a50 := Try.isAgg73,
  z50 := Try.sizeOf73,
  v50 := Try.zeroValue73,
  t53 := Try.underlying96,
  a53 := Try.isAgg96,
  z53 := Try.sizeOf96,
  v53 := Try.zeroValue96,
  t55 := Try.underlying98,
  a55 := Try.isAgg98,
  z55 := Try.sizeOf98,
  v55 := Try.zeroValue98,
  t66 := Try.underlying99,
  a66 := Try.isAgg99,
  z66 := Try.sizeOf99,
  v66 := Try.zeroValue99,
  t70 := Try.underlying103,
  a70 := Try.isAgg103,
  z70 := Try.sizeOf103,
  v70 := Try.zeroValue103,
  t76 := Try.underlying105,
  a76 := Try.isAgg105,
  z76 := Try.sizeOf105,
  v76 := Try.zeroValue105,
  t77 := Try.underlying106,
  a77 := Try.isAgg106,
  z77 := Try.sizeOf106,
  v77 := Try.zeroValue106 }
def Try.lCmpInt_ren : Go.Shelf.Ren := ⟨fun | 5 => 38 | 7 => 64 | n => n, fun | 22 => 3 | 3 => 3 | 4 => 4 | n => n, fun | n => n⟩
theorem Try.lCmpInt : Go.Proofs.SlLaysC2.n5 Try.prog Try.lCmpInt_ren := {
  mixed := by kernel_rfl,
  f5 := ⟨Try.f38.name, by decide, Try.func38.trans (congrArg some (by kernel_rfl))⟩,
  f7 := ⟨Try.f64.name, by decide, Try.func64.trans (congrArg some (by kernel_rfl))⟩,
  t3 := Try.underlying3,
  a3 := Try.isAgg3,
  z3 := Try.sizeOf3,
  v3 := Try.zeroValue3,
  t4 := Try.underlying4,
  a4 := Try.isAgg4,
  z4 := Try.sizeOf4,
  v4 := Try.zeroValue4,
  t22 := Try.underlying3,
  a22 := Try.isAgg3,
  z22 := Try.sizeOf3,
  v22 := Try.zeroValue3 }
end Go.Proofs.Ytgechlgdnnpoeaa

/- slices.SortFunc of bindings by their variables, over a row of the call's own. -/
namespace Go.Proofs.Ytgechlgdnnpoeaa
open Go.RowKit Go.Sort Go.Shelf Go

def cmpB (x y : BdV) : Int := Lib.compareInt x.1.var y.1.var
theorem ltB (x y : BdV) : ltOf cmpB x y = decide (x.1.var < y.1.var) := by
  unfold ltOf cmpB Lib.compareInt
  congr 1
  (repeat' split) <;> simp <;> omega
theorem swoB : SWO (ltOf cmpB) where
  irrefl x := by rw [ltB]; simp
  trans x y z := by rw [ltB, ltB, ltB]; simp only [decide_eq_true_eq]; omega
  ntrans x y z := by rw [ltB, ltB, ltB]; simp only [decide_eq_false_iff_not]; omega

def normB (v : Value) : Value := if v.oneCell' = true then v else .int .i64 0
theorem normB_one (v : Value) : (normB v).oneCell' = true := by unfold normB; split <;> first | assumption | rfl
def encN (x : BdV) : List Value := [.int .i64 x.1.var, normB x.2.1, normB x.2.2]
theorem encN_eq {S : Nat → Prop} {w : World} {p : BdV} (h : BdOk S w p) : encN p = encB p := by
  obtain ⟨_, a, c, e, _, _, _⟩ := h.2.form
  simp only [Value.agg.injEq, Array.mk.injEq, List.cons.injEq, and_true] at e
  unfold encN encB
  rw [e.1, e.2]; rfl
theorem flat_eq {S : Nat → Prop} {w : World} : ∀ {ds : List BdV}, (∀ p ∈ ds, BdOk S w p) → ds.flatMap encN = ds.flatMap encB
  | [], _ => rfl
  | p :: r, h => by rw [List.flatMap_cons, List.flatMap_cons, encN_eq (h p (by simp)), flat_eq fun q hq => h q (by simp [hq])]
theorem len_encN (ds : List BdV) : (ds.flatMap encN).length = ds.length * 3 := by
  induction ds with
  | nil => rfl
  | cons p r ih => rw [List.flatMap_cons, List.length_append, ih, List.length_cons]; show 3 + _ = _; omega
theorem get_encN : ∀ (ds : List BdV) (t : Nat), t < ds.length * 3 → (ds.flatMap encN)[t]? = some ((encN ds.toArray[t / 3]!)[t % 3]!)
  | [], t, h => by simp at h
  | p :: r, t, h => by
    rw [List.flatMap_cons]
    by_cases h3 : t < 3
    · rw [List.getElem?_append_left (by exact h3), show t / 3 = 0 by omega, show t % 3 = t by omega]
      have e : ((p :: r).toArray[0]!) = p := by simp
      rw [e, List.getElem?_eq_getElem (show t < (encN p).length from h3), getElem!_pos (encN p) t h3]; rfl
    · rw [List.getElem?_append_right (by show 3 ≤ t; omega)]
      show (r.flatMap encN)[t - 3]? = _
      rw [get_encN r (t - 3) (by rw [List.length_cons] at h; omega), show t % 3 = (t - 3) % 3 by omega, show t / 3 = (t - 3) / 3 + 1 by omega]
      have e : ((p :: r).toArray[(t - 3) / 3 + 1]!) = r.toArray[(t - 3) / 3]! := by simp
      rw [e]
theorem flat_encN (ds : List BdV) : (flatK encN 3 ds.toArray).toList = ds.flatMap encN := by
  apply List.ext_getElem?
  intro t
  by_cases h : t < ds.length * 3
  · rw [get_encN ds t h, Array.getElem?_toList, Array.getElem?_eq_getElem (by simpa using h)]
    congr 1
    have := get_flatK encN 3 ds.toArray t (by simpa using h)
    rwa [getElem!_pos _ t (by simpa using h)] at this
  · rw [List.getElem?_eq_none (by simp; omega), List.getElem?_eq_none (by rw [len_encN]; omega)]

theorem heap_sortB {w : World} {g n : Nat} {os : Array Obj} {cur : Array Value} {e : TypeId} {fr : Nat × Nat} (F : Array Value) (hb : w.heap[g]? = some (.cells cur e fr)) :
    (grow (putRow id (Sort.ahead w n) g 0 F) os).heap[g]? = some (.cells (putCells id 0 F cur) e fr) := by
  have hg : g < w.heap.size := (Array.getElem?_eq_some_iff.1 hb).1
  rw [heap_grow_old _ _ (by simpa using hg)]
  simp [putRow, mapBlock, Sort.ahead, Array.getElem?_modify, hb, onCells]
theorem chg_sortB {w : World} {g n : Nat} {os : Array Obj} (F : Array Value) : Chg (fun b => b = g) w (grow (putRow id (Sort.ahead w n) g 0 F) os) := by
  refine ⟨rfl, rfl, rfl, by simp, fun k hk hne => ?_⟩
  rw [heap_grow_old _ _ (by simpa using hk)]
  have : g ≠ k := fun e => hne e.symm
  simp [putRow, mapBlock, Sort.ahead, Array.getElem?_modify, this]
theorem take_sortB (cur F : Array Value) (h : F.size ≤ cur.size) : (putCells id 0 F cur).toList.take F.size = F.toList := by
  apply List.ext_getElem?
  intro j
  by_cases hj : j < F.size
  · rw [List.getElem?_take_of_lt hj, Array.getElem?_toList]
    simp [putCells, hj, show j < cur.size by omega]
  · rw [List.getElem?_take_eq_none (by omega), List.getElem?_eq_none (by simp; omega)]

/-- What the comparison says. -/
def CmpIs (g : Nat) : Prop := (∀ args w, (callFunc g args).run Try.prog w = .ok (.enter g args) w) ∧ ∀ (x y : BdV) (W : World), Calls Try.prog g #[.agg (encN x).toArray, .agg (encN y).toArray] W fun e w' => e = .returned (.int .i64 (cmpB x y)) ∧ ∃ q os', w' = grow (W.drewN q) os'

theorem bitsB (n : Nat) (w : World) (hn : n ≤ 4294967296) : Calls Try.prog 63 #[.int .u64 (n : Int)] w fun e w' => e = .returned (.int .i64 (Lib.bitLen n : Nat)) ∧ w' = w := by
  have h := Any.bits_Len (SlLaysF0.n15.bits { Try.lPdqB with }) (n : Int) w (by omega) (by omega)
  rwa [Int.toNat_natCast] at h

set_option maxHeartbeats 2000000 in
/-- The library's function, about its own. -/
theorem sortF_walk {w : World} {ra : Option Addr} {rc n g : Nat} {R : World → Prop} (hl : Calls Try.prog 63 #[.int .u64 (n : Int)] w fun e w' => e = .returned (.int .i64 (Lib.bitLen n : Nat)) ∧ w' = w)
    (hp : Calls Try.prog 62 #[.slice ra n rc, .int .i64 ((0 : Nat) : Int), .int .i64 (n : Nat), .int .i64 (Lib.bitLen n : Nat), .func (.func g) #[] #[]] w fun e w' => e = .returned (.tuple #[]) ∧ R w') (hn : n ≤ 4294967296 := by omega) :
    Calls Try.prog 36 #[.slice ra n rc, .func (.func g) #[] #[]] w fun e w' => e = .returned (.tuple #[]) ∧ R w' := by
  have wr : IntKind.u64.wrap (n : Int) = n := by simp [IntKind.wrap, IntKind.bits, IntKind.signed]; omega
  go_enter Try.func36, Try.ntmps36
  go_wp2_with (first | (go_at_call 63; refine hl.mono ?_; rintro e w' ⟨rfl, rfl⟩) | (go_at_call 62; refine hp.mono ?_; rintro e w' ⟨rfl, hR⟩))
  go_end0
  exact ⟨rfl, hR⟩

set_option maxRecDepth 100000 in
theorem sortB_own {w : World} {B : Nat} {ra : Option Addr} {rc n : Nat} {l : List Bd} {g : Nat} (h : RowE eltB w B 56 ra rc n l) (hn : n ≤ 4294967296) (hc : CmpIs g) :
    Calls Try.prog 36 #[.slice ra n rc, .func (.func g) #[] #[]] w (Ret fun v' w' => ∃ l' : List Bd, v' = .tuple #[] ∧ l'.Perm l ∧ l'.Pairwise (fun x y => x.var ≤ y.var) ∧ RowE eltB w' B 56 ra rc n l' ∧ Chg (fun b => (Value.slice ra n rc).ownBlock = some b) w w') := by
  obtain ⟨⟨xs, h1, h2⟩, hl⟩ := h
  rcases h1.2 with ⟨e, h0⟩ | ⟨b, cap, cur, e, hB, hb, hcap, hm, hs, hx⟩
  · simp only [Value.slice.injEq] at e
    obtain ⟨rfl, rfl, rfl⟩ := e
    obtain rfl : l = [] := List.length_eq_zero_iff.1 hl.symm
    refine (sortF_walk (g := g) (n := 0) (bitsB 0 w (by omega)) (AnyF.pdqsortCmpFunc_none Try.lPdqB none 0 _ _ w)).mono ?_
    rintro e w' ⟨rfl, rfl⟩
    exact ⟨_, rfl, [], rfl, .refl _, .nil, RowE.nil, .refl _ _⟩
  · have e' := e
    simp only [Value.slice.injEq, true_and] at e'
    obtain ⟨rfl, rfl⟩ := e'
    obtain ⟨ds, rfl, rfl, hds⟩ := elts_bdv h2
    have hn3 : n = ds.length := by simpa using hl
    subst hn3
    have hlen := len_encB ds
    have hg : b < w.heap.size := (Array.getElem?_eq_some_iff.1 hb).1
    have hk3 : eltB.k = 3 := rfl
    rw [hk3] at hs hx
    rw [← flat_eq hds] at hx
    have hH : HoldsK encN 3 w b 0 ds.toArray := by
      intro j hj
      have hj' : j < ds.length * 3 := by simpa using hj
      have hx' : (cur.toList.take (ds.length * 3))[j]? = (ds.flatMap encN)[j]? := by rw [hx]
      rw [List.getElem?_take_of_lt (by omega), Array.getElem?_toList, get_encN ds j hj'] at hx'
      have hf := get_flatK encN 3 ds.toArray j (by simpa using hj')
      refine ⟨?_, by simp [World.frozen?, hb]⟩
      show _ = some ((flatK encN 3 ds.toArray)[j]!)
      rw [hf, ← hx']
      simp only [World.cell?, hb, Nat.zero_add]
      simp
    have hp := AnyQ.pdqsortCmpFunc_all Try.lPdqB 3 (fun _ => rfl) (fun _ => rfl) encN cmpB g #[] swoB b 0 rc ds.toArray w hc.1 (fun m os dk _ x y => hc.2 x y _)
      ⟨fun _ => rfl, fun x v hv => by simp only [encN, List.mem_cons, List.not_mem_nil, or_false] at hv; rcases hv with rfl | rfl | rfl; exact rfl; exact normB_one _; exact normB_one _, hH, hg⟩ (ds.length + 1) 0 ds.length (Lib.bitLen ds.length) ds.toArray w (by omega) (by simp) (SWK.start hH) (Nat.zero_le _) (by simp) (by simp; omega) (Nat.lt_of_le_of_lt (Lib.bitLen_le ds.length 62 (by omega) (by omega)) (by omega)) (Or.inl rfl)
    have hl := bitsB ds.length w hn
    have hsort := pdq_sorts (ltOf cmpB) swoB ds.toArray 0 ds.toArray.size (Lib.bitLen ds.length) true true (Nat.zero_le _) (Nat.le_refl _) (Or.inl rfl)
    change Calls Try.prog 62 #[.slice (some ⟨b, 0, none⟩) ds.length rc, .int .i64 ((0 : Nat) : Int), .int .i64 (ds.length : Nat), .int .i64 (Lib.bitLen ds.length : Nat), .func (.func g) #[] #[]] w _ at hp
    rw [show ds.toArray.size = ds.length from by simp] at hsort
    generalize pdq (ltOf cmpB) ds.toArray 0 ds.length (Lib.bitLen ds.length) true true = d' at hp hsort
    have hw := sortF_walk (g := g) hl hp
    obtain ⟨⟨hsz, _, hperm⟩, hsrt⟩ := hsort
    obtain ⟨ds', rfl⟩ : ∃ ds' : List BdV, d' = ds'.toArray := ⟨d'.toList, by simp⟩
    have hlen' : ds'.length = ds.length := by simpa using hsz
    have hperm' : ds'.Perm ds := by
      have e1 : (ds'.toArray.extract 0 ds.length).toList = ds' := by rw [← hlen']; simp
      have e2 : (ds.toArray.extract 0 ds.length).toList = ds := by simp
      rw [e1, e2] at hperm; exact hperm
    refine hw.mono ?_
    rintro e w' ⟨rfl, m, os, rfl⟩
    have hchg : Chg (fun k => k = b) w (sortWorldK encN 3 w b 0 m ds'.toArray os) := chg_sortB (flatK encN 3 ds'.toArray)
    have hds' : ∀ p ∈ ds', BdOk (fun k => B ≤ k ∧ k ≠ b) (sortWorldK encN 3 w b 0 m ds'.toArray os) p := fun p hp => by
      have h := hds p (hperm'.mem_iff.1 hp)
      exact ⟨h.1, InT.chg (InT.mono (fun k hk _ => ⟨hk.1, fun e => hk.2 (by rw [own_some, e])⟩) h.2) hchg (fun k hk e => hk.2 e)⟩
    refine ⟨_, rfl, ds'.map (·.1), rfl, hperm'.map _, ?_, ?_, ?_⟩
    · rw [List.pairwise_map, List.pairwise_iff_getElem]
      intro i j hi hj hij
      have h := hsrt i j (Nat.zero_le _) hij (by omega)
      rw [ltB] at h
      simp only [decide_eq_false_iff_not] at h
      rw [getElem!_pos ds'.toArray i (by simpa using hi), getElem!_pos ds'.toArray j (by simpa using hj)] at h
      simp only [List.getElem_toArray] at h
      omega
    · refine RowE.mk3 (cur := putCells id 0 (flatK encN 3 ds'.toArray) cur) (heap_sortB _ hb) hds' ?_ hcap hm (by simpa [putCells] using hs) hB hlen'.symm
      have := take_sortB cur (flatK encN 3 ds'.toArray) (by simp [hlen']; omega)
      rw [show (flatK encN 3 ds'.toArray).size = ds.length * 3 from by simp [hlen']] at this
      rw [this, flat_encN, flat_eq hds']
    · exact ⟨hchg.os, hchg.tape, hchg.output, hchg.size, fun k hk hn => hchg.block k hk (fun e => hn (by rw [e, own_some]))⟩

end Go.Proofs.Ytgechlgdnnpoeaa

namespace Go.Proofs.Ytgechlgdnnpoeaa
open Go.RowKit Go.Sort Go.Shelf Go
set_option linter.unusedVariables false
set_option linter.unusedSimpArgs false

set_option maxHeartbeats 1000000 in
theorem ncmp1_any (x y : BdV) (W : World) : Calls Try.prog 55 #[.agg #[.int .i64 x.1.var, normB x.2.1, normB x.2.2], .agg #[.int .i64 y.1.var, normB y.2.1, normB y.2.2]] W fun e w' => e = .returned (.int .i64 (cmpB x y)) ∧ ∃ q os', w' = grow (W.drewN q) os' := by
  have hcon := fun W' => AnyG.cmp_Compare_int Try.lCmpInt x.1.var y.1.var W'
  change ∀ W', Calls Try.prog 38 _ _ _ at hcon
  unfold cmpB
  have o1 := normB_one x.2.1
  have o2 := normB_one x.2.2
  have o3 := normB_one y.2.1
  have o4 := normB_one y.2.2
  generalize Lib.compareInt x.1.var y.1.var = r at hcon ⊢
  generalize normB x.2.1 = a1 at *
  generalize normB x.2.2 = a2 at *
  generalize normB y.2.1 = a3 at *
  generalize normB y.2.2 = a4 at *
  go_enter Try.func55, Try.ntmps55
  go_wp2_with (go_at_call 38; refine (hcon _).mono ?_; rintro e w' ⟨rfl, rfl⟩)
  go_ret
  exact ⟨rfl, 0, _, by rw [alloc_eq_grow, alloc_eq_grow, grow_grow]; rfl⟩
theorem cmpIs_norm : CmpIs 55 := ⟨enters_of Try.func55 (by kernel_rfl) rfl, fun x y W => ncmp1_any x y W⟩

end Go.Proofs.Ytgechlgdnnpoeaa
